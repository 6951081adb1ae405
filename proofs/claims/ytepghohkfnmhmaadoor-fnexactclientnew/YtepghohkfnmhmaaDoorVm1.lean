/-
  The data of the program: terms, certificates, policies, .. as plain Lean data, and how an element of a slice lies in cells.
-/
import Derived.WalkKit
import Derived.Deep.AppendSrc
namespace Go.Vm
set_option linter.unusedVariables false

structure Term where
  op : Int
  n : Int
  s : ByteArray
  kids : List Term

mutual
def Term.beq : Term → Term → Bool
  | ⟨o, n, s, k⟩, ⟨o', n', s', k'⟩ => decide (o = o') && decide (n = n') && decide (s = s') && Term.beqs k k'
def Term.beqs : List Term → List Term → Bool
  | [], [] => true
  | x :: xs, y :: ys => Term.beq x y && Term.beqs xs ys
  | _, _ => false
end

mutual
theorem Term.beq_iff : ∀ a b : Term, Term.beq a b = true ↔ a = b
  | ⟨o, n, s, k⟩, ⟨o', n', s', k'⟩ => by
    have := Term.beqs_iff k k'
    simp only [Term.beq, Bool.and_eq_true, decide_eq_true_eq, this, Term.mk.injEq]
    exact ⟨fun ⟨⟨⟨a, b⟩, c⟩, d⟩ => ⟨a, b, c, d⟩, fun ⟨a, b, c, d⟩ => ⟨⟨⟨a, b⟩, c⟩, d⟩⟩
theorem Term.beqs_iff : ∀ a b : List Term, Term.beqs a b = true ↔ a = b
  | [], [] => by simp [Term.beqs]
  | [], _ :: _ => by simp [Term.beqs]
  | _ :: _, [] => by simp [Term.beqs]
  | x :: xs, y :: ys => by
    simp only [Term.beqs, Bool.and_eq_true, Term.beq_iff x y, Term.beqs_iff xs ys, List.cons.injEq]
end

instance : DecidableEq Term := fun a b => decidable_of_iff _ (Term.beq_iff a b)

structure Policy where
  domain : ByteArray
  mode : Int
  mx : List ByteArray
  til : Int
  deriving DecidableEq

structure Cert where
  host : ByteArray
  pub : Term
  til : Int
  deriving DecidableEq

structure Client where
  step : Int
  host : ByteArray
  must : Bool
  eph : Int
  body : Int
  share : Term
  inn : Int
  out : Int
  tls : Bool
  proved : Bool
  deriving DecidableEq

structure Server where
  step : Int
  host : ByteArray
  key : Int
  eph : Int
  cert : Term
  share : Term
  inn : Int
  out : Int
  tls : Bool
  got : List Int
  deriving DecidableEq

structure Letter where
  domain : ByteArray
  body : Int
  state : Int
  tries : Int
  next : Int
  deriving DecidableEq

structure Note where
  kind : Int
  who : Int
  domain : ByteArray
  body : Int
  time : Int
  deriving DecidableEq

structure Host where
  name : ByteArray
  key : Int
  lost : Bool
  deriving DecidableEq

structure CallD where
  letter : Int
  client : Client
  good : Bool
  deriving DecidableEq

structure Talk where
  host : Int
  server : Server
  deriving DecidableEq

structure WorldD where
  time : Int
  fresh : Int
  known : List Term
  cache : List Policy
  hosts : List Host
  letters : List Letter
  book : ByteArray
  sure : Int
  calls : List CallD
  talks : List Talk
  told : List Int
  deriving DecidableEq

structure Deed where
  kind : Int
  a : Int
  s : ByteArray
  t : Term
  deriving DecidableEq

/-- What a slice's elements are. -/
inductive Kind where
  | int | byte | str | term | policy | letter | note | host | call | talk | deed | terms | world
  deriving DecidableEq

@[reducible] def El : Kind → Type
  | .int => Int
  | .byte => UInt8
  | .str => ByteArray
  | .term => Term
  | .policy => Policy
  | .letter => Letter
  | .note => Note
  | .host => Host
  | .call => CallD
  | .talk => Talk
  | .deed => Deed
  | .terms => List Term
  | .world => WorldD

/-- A frozen one-cell value: a scalar; a slice (tight: its capacity is its length); a pointer into an element; an error. -/
inductive F where
  | sc (v : Value)
  | sl (tight : Bool) (k : Kind) (l : List (El k))
  | ep (k : Kind) (x : El k) (off : Nat)
  /-- some error, not nil -/
  | err

@[reducible] def F.int (n : Int) : F := .sc (.int .i64 n)
@[reducible] def F.str (s : ByteArray) : F := .sc (.string s)
@[reducible] def F.bool (b : Bool) : F := .sc (.bool b)

def Term.cells (t : Term) : List F := [.int t.op, .int t.n, .str t.s, .sl false .term t.kids]
def Policy.cells (p : Policy) : List F := [.str p.domain, .int p.mode, .sl false .str p.mx, .int p.til]
def Cert.cells (c : Cert) : List F := [.str c.host, .int c.pub.op, .int c.pub.n, .str c.pub.s, .sl false .term c.pub.kids, .int c.til]
def Client.cells (c : Client) : List F :=
  [.int c.step, .str c.host, .bool c.must, .int c.eph, .int c.body, .int c.share.op, .int c.share.n, .str c.share.s, .sl false .term c.share.kids, .int c.inn, .int c.out, .bool c.tls, .bool c.proved]
def Server.cells (s : Server) : List F :=
  [.int s.step, .str s.host, .int s.key, .int s.eph, .int s.cert.op, .int s.cert.n, .str s.cert.s, .sl false .term s.cert.kids, .int s.share.op, .int s.share.n, .str s.share.s, .sl false .term s.share.kids,
   .int s.inn, .int s.out, .bool s.tls, .sl false .int s.got]
def Letter.cells (l : Letter) : List F := [.str l.domain, .int l.body, .int l.state, .int l.tries, .int l.next]
def Note.cells (n : Note) : List F := [.int n.kind, .int n.who, .str n.domain, .int n.body, .int n.time]
def Host.cells (h : Host) : List F := [.str h.name, .int h.key, .bool h.lost]
def CallD.cells (c : CallD) : List F :=
  [.int c.letter, .int c.client.step, .str c.client.host, .bool c.client.must, .int c.client.eph, .int c.client.body, .int c.client.share.op, .int c.client.share.n, .str c.client.share.s, .sl false .term c.client.share.kids,
   .int c.client.inn, .int c.client.out, .bool c.client.tls, .bool c.client.proved, .bool c.good]
def Talk.cells (t : Talk) : List F :=
  [.int t.host, .int t.server.step, .str t.server.host, .int t.server.key, .int t.server.eph, .int t.server.cert.op, .int t.server.cert.n, .str t.server.cert.s, .sl false .term t.server.cert.kids,
   .int t.server.share.op, .int t.server.share.n, .str t.server.share.s, .sl false .term t.server.share.kids, .int t.server.inn, .int t.server.out, .bool t.server.tls, .sl false .int t.server.got]
def WorldD.cells (w : WorldD) : List F :=
  [.int w.time, .int w.fresh, .sl false .term w.known, .sl false .policy w.cache, .sl false .host w.hosts, .sl false .letter w.letters, .str w.book, .int w.sure, .sl false .call w.calls, .sl false .talk w.talks, .sl false .int w.told]
def Deed.cells (d : Deed) : List F := [.int d.kind, .int d.a, .str d.s, .int d.t.op, .int d.t.n, .str d.t.s, .sl false .term d.t.kids]

def cellsOf : (k : Kind) → El k → List F
  | .int, n => [.int n]
  | .byte, b => [.sc (.int .u8 b.toNat)]
  | .str, s => [.str s]
  | .term, t => Term.cells t
  | .policy, p => Policy.cells p
  | .letter, l => Letter.cells l
  | .note, n => Note.cells n
  | .host, h => Host.cells h
  | .call, c => CallD.cells c
  | .talk, t => Talk.cells t
  | .deed, d => Deed.cells d
  | .terms, l => [.sl false .term l]
  | .world, w => WorldD.cells w

def szOf : Kind → Nat
  | .int => 1 | .byte => 1 | .str => 1 | .term => 4 | .policy => 4 | .letter => 5 | .note => 5 | .host => 3 | .call => 15 | .talk => 17 | .deed => 7 | .terms => 1 | .world => 11

theorem cells_length (k : Kind) (x : El k) : (cellsOf k x).length = szOf k := by cases k <;> rfl

theorem szOf_pos (k : Kind) : 0 < szOf k := by cases k <;> decide

/-- An element out of its cells. -/
def ofCells : (k : Kind) → List F → Option (El k)
  | .int, [.sc (.int .i64 n)] => some n
  | .byte, [.sc (.int .u8 n)] => if 0 ≤ n ∧ n < 256 then some (UInt8.ofNat n.toNat) else none
  | .str, [.sc (.string s)] => some s
  | .term, [.sc (.int .i64 a), .sc (.int .i64 b), .sc (.string s), .sl _ .term l] => some (⟨a, b, s, l⟩ : Term)
  | .policy, [.sc (.string d), .sc (.int .i64 m), .sl _ .str l, .sc (.int .i64 u)] => some (⟨d, m, l, u⟩ : Policy)
  | .letter, [.sc (.string d), .sc (.int .i64 b), .sc (.int .i64 s), .sc (.int .i64 t), .sc (.int .i64 n)] => some (⟨d, b, s, t, n⟩ : Letter)
  | .note, [.sc (.int .i64 k), .sc (.int .i64 w), .sc (.string d), .sc (.int .i64 b), .sc (.int .i64 t)] => some (⟨k, w, d, b, t⟩ : Note)
  | .host, [.sc (.string n), .sc (.int .i64 k), .sc (.bool l)] => some (⟨n, k, l⟩ : Host)
  | .call, [.sc (.int .i64 l), .sc (.int .i64 st), .sc (.string h), .sc (.bool m), .sc (.int .i64 e), .sc (.int .i64 b), .sc (.int .i64 to), .sc (.int .i64 tn), .sc (.string ts), .sl _ .term tk,
      .sc (.int .i64 i), .sc (.int .i64 o), .sc (.bool tl), .sc (.bool p), .sc (.bool g)] => some (⟨l, ⟨st, h, m, e, b, ⟨to, tn, ts, tk⟩, i, o, tl, p⟩, g⟩ : CallD)
  | .talk, [.sc (.int .i64 h), .sc (.int .i64 st), .sc (.string nm), .sc (.int .i64 k), .sc (.int .i64 e), .sc (.int .i64 co), .sc (.int .i64 cn), .sc (.string cs), .sl _ .term ck,
      .sc (.int .i64 so), .sc (.int .i64 sn), .sc (.string ss), .sl _ .term sk, .sc (.int .i64 i), .sc (.int .i64 o), .sc (.bool tl), .sl _ .int g] =>
      some (⟨h, ⟨st, nm, k, e, ⟨co, cn, cs, ck⟩, ⟨so, sn, ss, sk⟩, i, o, tl, g⟩⟩ : Talk)
  | .deed, [.sc (.int .i64 k), .sc (.int .i64 a), .sc (.string s), .sc (.int .i64 to), .sc (.int .i64 tn), .sc (.string ts), .sl _ .term tk] => some (⟨k, a, s, ⟨to, tn, ts, tk⟩⟩ : Deed)
  | .terms, [.sl _ .term l] => some l
  | .world, [.sc (.int .i64 t), .sc (.int .i64 fr), .sl _ .term kn, .sl _ .policy ca, .sl _ .host ho, .sl _ .letter le, .sc (.string bo), .sc (.int .i64 su), .sl _ .call cl, .sl _ .talk ta, .sl _ .int to] =>
      some (⟨t, fr, kn, ca, ho, le, bo, su, cl, ta, to⟩ : WorldD)
  | _, _ => none

def zeroT : Term := ⟨0, 0, ⟨#[]⟩, []⟩
def zeroClient : Client := ⟨0, ⟨#[]⟩, false, 0, 0, zeroT, 0, 0, false, false⟩
def zeroServer : Server := ⟨0, ⟨#[]⟩, 0, 0, zeroT, zeroT, 0, 0, false, []⟩

def zeroEl : (k : Kind) → El k
  | .int => (0 : Int)
  | .byte => (0 : UInt8)
  | .str => (⟨#[]⟩ : ByteArray)
  | .term => zeroT
  | .policy => (⟨⟨#[]⟩, 0, [], 0⟩ : Policy)
  | .letter => (⟨⟨#[]⟩, 0, 0, 0, 0⟩ : Letter)
  | .note => (⟨0, 0, ⟨#[]⟩, 0, 0⟩ : Note)
  | .host => (⟨⟨#[]⟩, 0, false⟩ : Host)
  | .call => (⟨0, zeroClient, false⟩ : CallD)
  | .talk => (⟨0, zeroServer⟩ : Talk)
  | .deed => (⟨0, 0, ⟨#[]⟩, zeroT⟩ : Deed)
  | .terms => ([] : List Term)
  | .world => (⟨0, 0, [], [], [], [], ⟨#[]⟩, 0, [], [], []⟩ : WorldD)

end Go.Vm

namespace Go.Vm
set_option linter.unusedVariables false

/-- The name of an object: made here, in this slot; handed in; made by a callee, at this slot. -/
inductive Id where
  | own (s : Nat)
  | arg (j : Nat)
  | ret (s k : Nat)
  deriving DecidableEq

def Id.beq : Id → Id → Bool
  | .own a, .own b => Nat.beq a b
  | .arg a, .arg b => Nat.beq a b
  | .ret a b, .ret c d => Nat.beq a c && Nat.beq b d
  | _, _ => false

/-- One cell: a frozen value; a place in a box; a row; a place in a row's element; a closure; unknown; nothing yet. -/
inductive C where
  | f (x : F)
  | bx (id : Id) (off : Nat)
  | row (id : Id) (k : Kind)
  | re (id : Id) (k : Kind) (i off : Nat)
  | fn (f : FuncId) (caps : List C)
  | hole
  | und

inductive V where
  | c (x : C)
  | agg (cs : List C)
  | tup (vs : List V)

inductive Obj where
  | box (cs : List C)
  | row (wr : Bool) (k : Kind) (l : List (El k))
  | dead

@[reducible] def V.bool (b : Bool) : V := .c (.f (.sc (.bool b)))
@[reducible] def V.int (n : Int) : V := .c (.f (.sc (.int .i64 n)))
@[reducible] def V.u8 (n : Int) : V := .c (.f (.sc (.int .u8 n)))
@[reducible] def V.str (s : ByteArray) : V := .c (.f (.sc (.string s)))
@[reducible] def V.sl (t : Bool) (k : Kind) (l : List (El k)) : V := .c (.f (.sl t k l))
@[reducible] def V.ag (cs : List F) : V := .agg (cs.map C.f)

abbrev Fr := Nat → V
abbrev Hp := Id → Option Obj

structure St where
  fr : Fr
  h : Hp

/-- What is known of a type. -/
structure TI where
  desc : TypeDesc
  size : Nat
  bytes : Nat
  zv : Value
  zero : List C
  kind : Option Kind

/-- A row's place at a loop's head: a slot, a box's cell. -/
inductive Place where
  | slot (s : Nat)
  | cell (id : Id) (off : Nat)

/-- What is kept at a loop's head: slots, objects, rows by the place that holds them and the name that they get. -/
structure Keep where
  slots : List Nat
  objs : List Id
  rows : List (Place × Id)

/-- How a call is taken: it is handed no memory; it is handed local memory; the same, and it is run on the spot. -/
inductive Mode where
  | pure | heap | inline
  deriving DecidableEq

/-- What a call's result is taken for. -/
inductive Sh where
  | raw
  | bool | int | u8 | str
  | sl (k : Kind)
  | el (k : Kind)
  | cert | client | server | world
  | tup (l : List Sh)
  | bx (id : Id) (off : Nat)
  | row (id : Id) (k : Kind)

inductive OSh where
  | box (l : List Sh)
  | row (wr : Bool) (k : Kind)
  /-- a box that holds one struct -/
  | recd (s : Sh)

/-- What is told of a loop: what is kept at its head; behind it; what that is taken for; by which ways it is left. -/
structure LoopH where
  head : Keep
  out : Keep
  sh : List (Nat × Sh)
  osh : List (Id × OSh)
  exits : List Nat

structure Cfg where
  tb : TypeId → Option TI
  /-- the caller's number, the callee's -/
  hm : FuncId → FuncId → Mode
  /-- what a type's values are taken for, where a call hands them back -/
  sh : TypeId → Sh
  /-- structs of this type may be compared -/
  eqT : TypeId → Bool
  lh : FuncId → Nat → LoopH
  /-- what a region's loose stores may write -/
  dl : FuncId → Nat → List Id
  ext : FuncId → Option (List V → List Obj → Option (V × List Obj × List Obj))

abbrev CallSem := FuncId → List V → List Obj → Option (V × List Obj × List Obj)

def upd (fr : Fr) (d : Nat) (v : V) : Fr := fun s => bif Nat.beq s d then v else fr s
def hput (h : Hp) (i : Id) (o : Obj) : Hp := fun j => bif Id.beq j i then some o else h j

/-! ### Values -/

def isAggD : TypeDesc → Bool
  | .struct _ | .array _ _ => true
  | _ => false

def isStr : TypeDesc → Bool
  | .struct _ => true
  | _ => false

def scal : Value → Bool
  | .bool _ | .int _ _ | .string _ | .nilIface | .iface _ _ => true
  | _ => false

/-- A constant of a type. -/
def constC (cfg : Cfg) (T : TypeId) (v : Value) : Option C :=
  match v with
  | .bool b => some (.f (.sc (.bool b)))
  | .int k n => some (.f (.sc (.int k n)))
  | .string s => some (.f (.sc (.string s)))
  | .nilIface => some (.f (.sc .nilIface))
  | .slice none 0 0 => (cfg.tb T).bind fun i => i.kind.map fun k => .f (.sl true k [])
  | .pointer none => some .hole
  | _ => none

def constV (cfg : Cfg) (T : TypeId) (v : Value) : Option V := (constC cfg T v).map .c

/-- An operand, where its type is known. -/
def evT (cfg : Cfg) (fr : Fr) (T : TypeId) : Operand → Option V
  | .tmp t => some (fr t)
  | .const v => constV cfg T v
  | .func f => some (.c (.fn f []))
  | .global _ => none

/-- An operand that is no nil slice. -/
def ev (fr : Fr) : Operand → Option V
  | .tmp t => some (fr t)
  | .const (.bool b) => some (.bool b)
  | .const (.int k n) => some (.c (.f (.sc (.int k n))))
  | .const (.string s) => some (.str s)
  | .const .nilIface => some (.c (.f (.sc .nilIface)))
  | .func f => some (.c (.fn f []))
  | _ => none

def asB : V → Option Bool
  | .c (.f (.sc (.bool b))) => some b
  | _ => none

def asI : V → Option Int
  | .c (.f (.sc (.int .i64 n))) => some n
  | _ => none

/-- A cell of which something is known. -/
def defC : C → Bool
  | .hole => false
  | .und => false
  | _ => true

def cellsV : V → Option (List C)
  | .c x => bif defC x then some [x] else none
  | .agg cs => some cs
  | .tup _ => none

def frzC : C → Option F
  | .f x => some x
  | _ => none

def lmapM {α β : Type} (f : α → Option β) : List α → Option (List β)
  | [] => some []
  | a :: l => (f a).bind fun b => (lmapM f l).bind fun r => some (b :: r)

def ne0 (y : Int) : Option Unit := if y = 0 then none else some ()
def ge0 (y : Int) : Option Unit := if y < 0 then none else some ()
def catOk (x y : ByteArray) : Option Unit := if ((x.size + y.size : Nat) : Int) > IntKind.i64.max then none else some ()

/-- Integers of one kind. -/
def binI (op : BinOp) (k : IntKind) (a b : Int) : Option F :=
  match op with
  | .add => some (.sc (.int k (k.wrap (a + b))))
  | .sub => some (.sc (.int k (k.wrap (a - b))))
  | .mul => some (.sc (.int k (k.wrap (a * b))))
  | .quo => (ne0 b).bind fun _ => some (.sc (.int k (k.wrap (a.tdiv b))))
  | .rem => (ne0 b).bind fun _ => some (.sc (.int k (a.tmod b)))
  | .and => some (.sc (.int k (k.wrap (BitVec.ofInt k.bits a &&& BitVec.ofInt k.bits b).toNat)))
  | .or => some (.sc (.int k (k.wrap (BitVec.ofInt k.bits a ||| BitVec.ofInt k.bits b).toNat)))
  | .xor => some (.sc (.int k (k.wrap (BitVec.ofInt k.bits a ^^^ BitVec.ofInt k.bits b).toNat)))
  | .eql => some (.bool (a == b))
  | .neq => some (.bool (a != b))
  | .lss => some (.bool (a < b))
  | .leq => some (.bool (a ≤ b))
  | .gtr => some (.bool (a > b))
  | .geq => some (.bool (a ≥ b))
  | _ => none

def binS (op : BinOp) (x y : ByteArray) : Option F :=
  match op with
  | .add => (catOk x y).bind fun _ => some (.str (x ++ y))
  | .eql => some (.bool (x.toList == y.toList))
  | .neq => some (.bool !(x.toList == y.toList))
  | .lss => some (.bool (Op.bytesLess x.toList y.toList))
  | .leq => some (.bool (Op.bytesLess x.toList y.toList || x.toList == y.toList))
  | .gtr => some (.bool !(Op.bytesLess x.toList y.toList || x.toList == y.toList))
  | .geq => some (.bool !(Op.bytesLess x.toList y.toList))
  | _ => none

def eqB (op : BinOp) (b : Bool) : Option F :=
  match op with
  | .eql => some (.bool b)
  | .neq => some (.bool !b)
  | _ => none

/-- A shift: the kinds may differ. -/
def shf (op : BinOp) (k : IntKind) (a b : Int) : Option F :=
  match op with
  | .shl => (ge0 b).bind fun _ => some (.sc (.int k (k.wrap (a * 2 ^ (min b.toNat k.bits)))))
  | .shr => (ge0 b).bind fun _ => some (.sc (.int k (a.fdiv (2 ^ (min b.toNat k.bits)))))
  | _ => none

def isShift : BinOp → Bool
  | .shl | .shr => true
  | _ => false

/-- Are two scalars of a type alike? -/
def scEqT : TypeDesc → C → C → Option Bool
  | .int .i64, .f (.sc (.int .i64 a)), .f (.sc (.int .i64 b)) => some (a == b)
  | .string, .f (.sc (.string a)), .f (.sc (.string b)) => some (a == b)
  | .bool, .f (.sc (.bool a)), .f (.sc (.bool b)) => some (a == b)
  | _, _, _ => none

/-- Structs, field by field. -/
def eqF (tb : TypeId → Option TI) : Nat → List Field → List C → List C → Option Bool
  | _, [], [], [] => some true
  | j, f :: fs, c :: cs, d :: ds =>
    bif f.name == "_" || !Nat.beq f.offset j then none else
      (tb f.type).bind fun i => (scEqT i.desc c d).bind fun x => (eqF tb (j + 1) fs cs ds).bind fun y => some (x && y)
  | _, _, _, _ => none

def isConst : Operand → Bool
  | .const _ => true
  | _ => false

def bin (cfg : Cfg) (op : BinOp) (T : TypeId) (cy : Bool) (x y : V) : Option V :=
  match x, y with
  | .c (.f (.sc (.int k a))), .c (.f (.sc (.int k' b))) => bif isShift op then (shf op k a b).bind fun v => some (.c (.f v)) else bif decide (k = k') then (binI op k a b).bind fun v => some (.c (.f v)) else none
  | .c (.f (.sc (.string a))), .c (.f (.sc (.string b))) => (binS op a b).bind fun v => some (.c (.f v))
  | .c (.f (.sc (.bool a))), .c (.f (.sc (.bool b))) => (cfg.tb T).bind fun i => match i.desc with
      | .bool => (eqB op (a == b)).bind fun v => some (.c (.f v))
      | _ => none
  | .c (.f .err), .c (.f (.sc .nilIface)) => (cfg.tb T).bind fun i => match i.desc with
      | .interface _ => (eqB op false).bind fun v => some (.c (.f v))
      | _ => none
  | .c (.f (.sc .nilIface)), .c (.f (.sc .nilIface)) => (cfg.tb T).bind fun i => match i.desc with
      | .interface _ => bif cy then (eqB op true).bind fun v => some (.c (.f v)) else none
      | _ => none
  | .agg cs, .agg ds => bif cfg.eqT T then (cfg.tb T).bind fun i => (match i.desc with
      | .struct fs => (eqF cfg.tb 0 fs.toList cs ds).bind fun b => (eqB op b).bind fun v => some (.c (.f v))
      | _ => none) else none
  | _, _ => none

def un (op : UnOp) (x : V) : Option V :=
  match op, x with
  | .not, .c (.f (.sc (.bool b))) => some (.bool !b)
  | .neg, .c (.f (.sc (.int k n))) => some (.c (.f (.sc (.int k (k.wrap (0 - n))))))
  | _, _ => none

/-- Part of a list. -/
def cut {α : Type} (l : List α) (off n : Nat) : List α := (l.drop off).take n

def putAt {α : Type} : List α → Nat → List α → List α
  | l, _, [] => l
  | [], _, _ => []
  | _ :: l, 0, y :: ys => y :: putAt l 0 ys
  | x :: l, n + 1, ys => x :: putAt l n ys

def valOf (agg : Bool) (cs : List C) : Option V :=
  bif agg then some (.agg cs) else match cs with | [x] => some (.c x) | _ => none

/-! ### Operations -/

def ld (cfg : Cfg) (h : Hp) (T : TypeId) (a : V) : Option V :=
  (cfg.tb T).bind fun i =>
  match a with
  | .c (.bx id off) => (h id).bind fun
      | .box cs => bif Nat.ble (off + i.size) cs.length then valOf (isAggD i.desc) (cut cs off i.size) else none
      | _ => none
  | .c (.f (.ep k x off)) => bif Nat.ble (off + i.size) (szOf k) then valOf (isAggD i.desc) ((cut (cellsOf k x) off i.size).map .f) else none
  | .c (.re id k j off) => (h id).bind fun
      | .row _ k' l => if e : k' = k then (l[j]?).bind fun x => bif Nat.ble (off + i.size) (szOf k) then valOf (isAggD i.desc) ((cut (cellsOf k (e ▸ x)) off i.size).map .f) else none else none
      | _ => none
  | _ => none

def st (cfg : Cfg) (h : Hp) (T : TypeId) (a v : V) : Option Hp :=
  (cfg.tb T).bind fun i =>
  (cellsV v).bind fun vs =>
  bif Nat.beq vs.length i.size then
    match a with
    | .c (.bx id off) => (h id).bind fun
        | .box cs => bif Nat.ble (off + i.size) cs.length && vs.all defC then some (hput h id (.box (putAt cs off vs))) else none
        | _ => none
    | .c (.re id k j off) => (h id).bind fun
        | .row true k' l => if e : k' = k then (l[j]?).bind fun x => bif Nat.ble (off + i.size) (szOf k) then
            (lmapM frzC vs).bind fun fs => (ofCells k (putAt (cellsOf k (e ▸ x)) off fs)).bind fun y => some (hput h id (.row true k' (l.set j (e ▸ y)))) else none else none
        | _ => none
    | _ => none
  else none

def fieldOf (cfg : Cfg) (T : TypeId) (j : Nat) : Option (Nat × TypeId) :=
  (cfg.tb T).bind fun i => match i.desc with
    | .struct fs => (fs[j]?).map fun f => (f.offset, f.type)
    | _ => none

def fldA (cfg : Cfg) (T : TypeId) (a : V) (j : Nat) : Option V :=
  (fieldOf cfg T j).bind fun p => (cfg.tb p.2).bind fun i => bif Nat.blt 0 i.size then
    (match a with
    | .c (.bx id off) => some (.c (.bx id (off + p.1)))
    | .c (.f (.ep k x off)) => some (.c (.f (.ep k x (off + p.1))))
    | .c (.re id k i off) => some (.c (.re id k i (off + p.1)))
    | _ => none)
  else none

def fld (cfg : Cfg) (T : TypeId) (x : V) (j : Nat) : Option V :=
  (fieldOf cfg T j).bind fun p => (cfg.tb p.2).bind fun i =>
  match x with
  | .agg cs => bif Nat.ble (p.1 + i.size) cs.length then valOf (isAggD i.desc) (cut cs p.1 i.size) else none
  | _ => none

def kindT (cfg : Cfg) (T : TypeId) : Option Kind := (cfg.tb T).bind fun i => match i.desc with | .slice _ => i.kind | _ => none

def idx {α : Type} (l : List α) (i : Int) : Option α := if 0 ≤ i then l[i.toNat]? else none

def ixA (cfg : Cfg) (h : Hp) (T : TypeId) (x i : V) : Option V :=
  (kindT cfg T).bind fun k =>
  (asI i).bind fun i =>
  match x with
  | .c (.f (.sl _ k' l)) => bif decide (k' = k) then (idx l i).bind fun y => some (.c (.f (.ep k' y 0))) else none
  | .c (.row id k') => bif decide (k' = k) then (h id).bind fun
      | .row true k2 l => bif decide (k2 = k') then (idx l i).bind fun _ => some (.c (.re id k' i.toNat 0)) else none
      | _ => none else none
  | _ => none

def byteAt (s : ByteArray) (i : Int) : Option Int := if 0 ≤ i then (s[i.toNat]?).map fun b => (b.toNat : Int) else none

def ix (cfg : Cfg) (T : TypeId) (x i : V) : Option V :=
  (cfg.tb T).bind fun t => match t.desc, x with
  | .string, .c (.f (.sc (.string s))) => (asI i).bind fun i => (byteAt s i).bind fun b => some (.u8 b)
  | _, _ => none

/-- Bounds of a cut: low, high. -/
def bnds (n : Nat) (lo hi : Option Int) : Option (Nat × Nat) :=
  let h : Int := hi.getD n
  let l : Int := lo.getD 0
  if 0 ≤ l ∧ l ≤ h ∧ h ≤ n then some (l.toNat, h.toNat) else none

def optI (fr : Fr) : Option Operand → Option (Option Int)
  | none => some none
  | some x => (ev fr x).bind fun v => (asI v).bind fun n => some (some n)

def slc (cfg : Cfg) (fr : Fr) (T : TypeId) (x : V) (lo hi mx : Option Operand) : Option V :=
  (cfg.tb T).bind fun t =>
  (optI fr lo).bind fun l => (optI fr hi).bind fun hh =>
  match t.desc, x, mx with
  | .string, .c (.f (.sc (.string s))), none => (bnds s.size l hh).bind fun p => some (.str (s.extract p.1 p.2))
  | .slice _, .c (.f (.sl _ k y)), none => bif decide (t.kind = some k) then (bnds y.length l hh).bind fun p => some (.sl false k ((y.take p.2).drop p.1)) else none
  | .slice _, .c (.f (.sl _ k y)), some (.const (.int .i64 0)) => match l, hh with | none, some 0 => bif decide (t.kind = some k) then some (.sl true k []) else none | _, _ => none
  | _, _, _ => none

def isU8 : Option TI → Bool
  | some ⟨.int .u8, _, _, _, _, _⟩ => true
  | _ => false

/-- Two words of the conversions that are met. -/
def cnv (cfg : Cfg) (src dst : TypeId) (x : V) : Option V :=
  (cfg.tb src).bind fun s => (cfg.tb dst).bind fun d =>
  match s.desc, d.desc, x with
  | .int _, .int k, .c (.f (.sc (.int _ n))) => some (.c (.f (.sc (.int k (k.wrap n)))))
  | .slice e, .string, .c (.f (.sl _ .byte l)) => bif isU8 (cfg.tb e) && decide (s.kind = some .byte) then some (.str ⟨l.toArray⟩) else none
  | _, _, _ => none

def bld (cfg : Cfg) (fr : Fr) (T : TypeId) (parts : List (Nat × Operand)) : Option V :=
  (cfg.tb T).bind fun i =>
  bif isStr i.desc then
    (parts.foldl (fun acc (p : Nat × Operand) => acc.bind fun (cs : List C) =>
      (fieldOf cfg T p.1).bind fun (o, u) => (cfg.tb u).bind fun ui => (evT cfg fr u p.2).bind fun v => (cellsV v).bind fun vs =>
        bif Nat.beq vs.length ui.size && Nat.ble (o + vs.length) cs.length then some (putAt cs o vs) else none) (some i.zero)).map .agg
  else none

/-- 'parts' in order, number by number: all are there. -/
def inOrder : Nat → List (Nat × Operand) → Bool
  | _, [] => true
  | n, p :: r => Nat.beq p.1 n && inOrder (n + 1) r

def eltT (cfg : Cfg) (T : TypeId) : Option TypeId := (cfg.tb T).bind fun i => match i.desc with | .slice e => some e | _ => none

/-- A constant struct of a type: the zero one. -/
def zeroConst (cfg : Cfg) (fr : Fr) (T : TypeId) : Operand → Option V
  | .const (.agg _) => none
  | x => evT cfg fr T x

def bldS (cfg : Cfg) (fr : Fr) (T : TypeId) (n : Nat) (parts : List (Nat × Operand)) : Option V :=
  (kindT cfg T).bind fun k => (eltT cfg T).bind fun e =>
  bif Nat.beq parts.length n && inOrder 0 parts && Nat.ble (n * szOf k) 1000 then
    (lmapM (fun p : Nat × Operand => (evT cfg fr e p.2).bind fun v => (cellsV v).bind fun cs => (lmapM frzC cs).bind (ofCells k)) parts).map fun l => .sl true k l
  else none

def slen (h : Hp) : V → Option Nat
  | .c (.f (.sc (.string s))) => some s.size
  | .c (.f (.sl _ _ l)) => some l.length
  | .c (.row id k) => (h id).bind fun
      | .row _ _ l => some l.length
      | _ => none
  | _ => none

/-- A string of a string's type, a slice of a slice's. -/
def seqT : TypeDesc → V → Bool
  | .string, .c (.f (.sc (.string _))) => true
  | .slice _, .c (.f (.sl _ _ _)) => true
  | .slice _, .c (.row _ _) => true
  | _, _ => false

/-- What is appended: the elements. -/
def items (h : Hp) (k : Kind) : V → Option (List (El k))
  | .c (.f (.sl _ k' l)) => if e : k' = k then some (e ▸ l) else none
  | .c (.row id k') => (h id).bind fun
      | .row _ k2 l => if e : k2 = k then some (e ▸ l) else none
      | _ => none
  | .c (.f (.sc (.string s))) => if e : Kind.byte = k then some (e ▸ (s.data.toList : List UInt8)) else none
  | _ => none

/-- What an operation does to local memory: nothing; one object more; a new table. -/
inductive Eff where
  | none
  | put (i : Id) (o : Obj)
  | heap (h : Hp)

def applyE (h : Hp) : Eff → Option Hp
  | .none => some h
  | .put i o => match h i with | .none => some (hput h i o) | some _ => .none
  | .heap h' => some h'

def isNil {α : Type} : List α → Bool
  | [] => true
  | _ => false

/-- How long what is appended may become. -/
def appMax : Nat := 1000000000

/-- 'append(row, xs...)': the old row is gone, the new one stands at slot d. -/
def appRow (h : Hp) (d : Nat) (k : Kind) (id : Id) (l xs : List (El k)) : Option (V × Eff) :=
  match xs with
  | [] => some (.c (.row id k), .none)
  | _ :: _ => match h (.own d) with
    | .none => bif Nat.ble (l.length + xs.length) appMax then some (.c (.row (.own d) k), .heap (hput (hput h id .dead) (.own d) (.row true k (l ++ xs)))) else none
    | some _ => none

def notRow (id : Id) : V → Bool
  | .c (.row id2 _) => !Id.beq id2 id
  | _ => true

/-- 'append(tight, xs...)': a new row. -/
def appTight (d : Nat) (k : Kind) (l xs : List (El k)) : Option (V × Eff) :=
  match xs with
  | [] => some (.sl true k l, .none)
  | _ :: _ => bif Nat.ble (l.length + xs.length) appMax then some (.c (.row (.own d) k), .put (.own d) (.row true k (l ++ xs))) else none

def app (h : Hp) (d : Nat) (k : Kind) (s x : V) : Option (V × Eff) :=
  (items h k x).bind fun xs =>
  match s with
  | .c (.f (.sl true k' l)) => if e : k' = k then appTight d k (e ▸ l) xs else none
  | .c (.row id k') => (h id).bind fun
      | .row wr k2 l => if e : k2 = k then (bif notRow id x then appRow h d k id (e ▸ l) xs else none) else none
      | _ => none
  | _ => none

/-- make([]T, n): a row of zeros. -/
def mk (cfg : Cfg) (d : Nat) (T : TypeId) (n c : V) : Option (V × Eff) :=
  (kindT cfg T).bind fun k => (asI n).bind fun n => (asI c).bind fun c =>
  bif decide (n = c) && decide (0 ≤ n) && Nat.ble n.toNat appMax then some (.c (.row (.own d) k), .put (.own d) (.row true k (List.replicate n.toNat (zeroEl k)))) else none

/-! ### What refers to objects -/

mutual
def refsC : C → List Id
  | .bx id _ => [id]
  | .row id _ => [id]
  | .re id _ _ _ => [id]
  | .fn _ caps => refsCs caps
  | _ => []
def refsCs : List C → List Id
  | [] => []
  | c :: cs => refsC c ++ refsCs cs
end

mutual
def refsV : V → List Id
  | .c x => refsC x
  | .agg cs => refsCs cs
  | .tup vs => refsVs vs
def refsVs : List V → List Id
  | [] => []
  | v :: vs => refsV v ++ refsVs vs
end

def refsO : Obj → List Id
  | .box cs => refsCs cs
  | _ => []

def memId (i : Id) : List Id → Bool
  | [] => false
  | j :: l => Id.beq j i || memId i l

def addNew (l : List Id) : List Id → List Id
  | [] => l
  | i :: r => bif memId i l then addNew l r else addNew (l ++ [i]) r

def refsAt (h : Hp) : List Id → List Id
  | [] => []
  | i :: r => (match h i with | some o => refsO o | none => []) ++ refsAt h r

def reach (h : Hp) : Nat → List Id → List Id
  | 0, l => l
  | n + 1, l => reach h n (addNew l (refsAt h l))

def allIn (l : List Id) : List Id → Bool
  | [] => true
  | i :: r => memId i l && allIn l r

def distinct : List Id → Bool
  | [] => true
  | i :: r => !memId i r && distinct r

/-! ### Names turned -/

def look (m : List (Id × Id)) (i : Id) : Option Id :=
  match m with
  | [] => none
  | (a, b) :: r => bif Id.beq a i then some b else look r i

mutual
def renC (m : List (Id × Id)) : C → C
  | .bx id off => match look m id with | some j => .bx j off | none => .hole
  | .row id k => match look m id with | some j => .row j k | none => .hole
  | .re id k i off => match look m id with | some j => .re j k i off | none => .hole
  | .fn f caps => .fn f (renCs m caps)
  | .f x => .f x
  | .hole => .hole
  | .und => .und
def renCs (m : List (Id × Id)) : List C → List C
  | [] => []
  | c :: cs => renC m c :: renCs m cs
end

mutual
def renV (m : List (Id × Id)) : V → V
  | .c x => .c (renC m x)
  | .agg cs => .agg (renCs m cs)
  | .tup vs => .tup (renVs m vs)
def renVs (m : List (Id × Id)) : List V → List V
  | [] => []
  | v :: vs => renV m v :: renVs m vs
end

def renO (m : List (Id × Id)) : Obj → Obj
  | .box cs => .box (renCs m cs)
  | o => o

def numFrom (mkId : Nat → Id) : Nat → List Id → List (Id × Id)
  | _, [] => []
  | n, i :: r => (i, mkId n) :: numFrom mkId (n + 1) r

def swap (m : List (Id × Id)) : List (Id × Id) := m.map fun p => (p.2, p.1)

/-- A table of objects, laid out: numbers from 'n' on. -/
def hpOf (mkId : Nat → Id) : Nat → List Obj → Hp
  | _, [] => fun _ => none
  | n, o :: r => fun i => bif Id.beq i (mkId n) then some o else hpOf mkId (n + 1) r i

def getAll (h : Hp) : List Id → Option (List Obj)
  | [] => some []
  | i :: r => (h i).bind fun o => (getAll h r).bind fun l => some (o :: l)

def putAll (h : Hp) : List Id → List Obj → Option Hp
  | [], [] => some h
  | i :: is, o :: os => putAll (hput h i o) is os
  | _, _ => none

def fresh (h : Hp) : List Id → Bool
  | [] => true
  | i :: r => (match h i with | none => true | some _ => false) && fresh h r

/-! ### Frozen: what a callee may be handed that keeps nothing, and what it hands back -/

/-- The kinds that a box may hold. -/
def boxKinds : List Kind := [.int, .str, .term, .policy, .letter, .note, .host, .call, .talk, .deed, .terms, .world]

/-- The one struct, text, number that a box holds. -/
def boxEl (fs : List F) : List Kind → Option ((k : Kind) × El k)
  | [] => none
  | k :: r => match ofCells k fs with
    | some x => some ⟨k, x⟩
    | none => boxEl fs r

/-- What a closure holds on to: a frozen value, a box that is frozen meanwhile. -/
def snapB (h : Hp) : C → Option C
  | .f x => some (.f x)
  | .bx id off => (h id).bind fun
      | .box cs => (lmapM frzC cs).bind fun fs => (boxEl fs boxKinds).bind fun p => some (.f (.ep p.1 p.2 off))
      | _ => none
  | _ => none

def snapC (h : Hp) : C → Option C
  | .f x => some (.f x)
  | .row id k => (h id).bind fun
      | .row _ k2 l => bif decide (k2 = k) then some (.f (.sl false k2 l)) else none
      | _ => none
  | .re id k i off => (h id).bind fun
      | .row _ k2 l => bif decide (k2 = k) then (l[i]?).bind fun x => some (.f (.ep k2 x off)) else none
      | _ => none
  | .bx id off => snapB h (.bx id off)
  | .fn f caps => (lmapM (snapB h) caps).map fun l => .fn f l
  | .und => some .und
  | _ => none

/-- A slice is handed over as one of which no more is known than its elements. -/
def loC : C → C
  | .f (.sl _ k l) => .f (.sl false k l)
  | c => c

def snapV (h : Hp) : V → Option V
  | .c x => (snapC h x).map fun c => .c (loC c)
  | .agg cs => (lmapM (snapC h) cs).map fun l => .agg (l.map loC)
  | .tup _ => none

def flatC : C → Bool
  | .f (.sc _) => true
  | _ => false

def flatV : V → Bool
  | .c x => flatC x
  | .agg cs => cs.all flatC
  | .tup vs => vs.all fun
      | .c x => flatC x
      | .agg cs => cs.all flatC
      | .tup _ => false

/-- What a callee that was handed nothing hands back: its new objects frozen. -/
def frzBack (h : Hp) : V → Option V
  | .c x => (snapC h x).map .c
  | .agg cs => (lmapM (snapC h) cs).map .agg
  | .tup vs => (lmapM (fun
      | .c x => (snapC h x).map V.c
      | .agg cs => (lmapM (snapC h) cs).map V.agg
      | .tup _ => none) vs).map .tup

/-! ### What a call hands back, taken for what it is -/

def part (v : V) (j : Nat) : Option V :=
  match v with
  | .tup vs => vs[j]?
  | _ => none

def unC : V → Option C
  | .c x => some x
  | _ => none

def fBool : C → Option Bool
  | .f (.sc (.bool b)) => some b
  | _ => none
def fInt : C → Option Int
  | .f (.sc (.int .i64 n)) => some n
  | _ => none
def fU8 : C → Option Int
  | .f (.sc (.int .u8 n)) => some n
  | _ => none
def fStr : C → Option ByteArray
  | .f (.sc (.string s)) => some s
  | _ => none
def fSl (k : Kind) : C → Option (List (El k))
  | .f (.sl _ k' l) => if e : k' = k then some (e ▸ l) else none
  | _ => none

def fBx (id : Id) (off : Nat) : C → Option Unit
  | .bx id' off' => bif Id.beq id' id && Nat.beq off' off then some () else none
  | _ => none
def fRow (id : Id) (k : Kind) : C → Option Unit
  | .row id' k' => bif Id.beq id' id && decide (k' = k) then some () else none
  | _ => none

def fTup (n : Nat) : V → Option Unit
  | .tup vs => bif Nat.beq vs.length n then some () else none
  | _ => none

def asEl (k : Kind) : V → Option (El k)
  | .agg cs => (lmapM frzC cs).bind (ofCells k)
  | _ => none

def asCert : V → Option Cert
  | .agg [.f (.sc (.string h)), .f (.sc (.int .i64 a)), .f (.sc (.int .i64 b)), .f (.sc (.string s)), .f (.sl _ .term l), .f (.sc (.int .i64 u))] => some ⟨h, ⟨a, b, s, l⟩, u⟩
  | _ => none
def asClient : V → Option Client
  | .agg [.f (.sc (.int .i64 st)), .f (.sc (.string h)), .f (.sc (.bool m)), .f (.sc (.int .i64 e)), .f (.sc (.int .i64 b)), .f (.sc (.int .i64 to)), .f (.sc (.int .i64 tn)), .f (.sc (.string ts)), .f (.sl _ .term tk),
      .f (.sc (.int .i64 i)), .f (.sc (.int .i64 o)), .f (.sc (.bool tl)), .f (.sc (.bool p))] => some ⟨st, h, m, e, b, ⟨to, tn, ts, tk⟩, i, o, tl, p⟩
  | _ => none
def asServer : V → Option Server
  | .agg [.f (.sc (.int .i64 st)), .f (.sc (.string nm)), .f (.sc (.int .i64 k)), .f (.sc (.int .i64 e)), .f (.sc (.int .i64 co)), .f (.sc (.int .i64 cn)), .f (.sc (.string cs)), .f (.sl _ .term ck),
      .f (.sc (.int .i64 so)), .f (.sc (.int .i64 sn)), .f (.sc (.string ss)), .f (.sl _ .term sk), .f (.sc (.int .i64 i)), .f (.sc (.int .i64 o)), .f (.sc (.bool tl)), .f (.sl _ .int g)] =>
      some ⟨st, nm, k, e, ⟨co, cn, cs, ck⟩, ⟨so, sn, ss, sk⟩, i, o, tl, g⟩
  | _ => none
def asWorld : V → Option WorldD
  | .agg [.f (.sc (.int .i64 t)), .f (.sc (.int .i64 fr)), .f (.sl _ .term kn), .f (.sl _ .policy ca), .f (.sl _ .host ho), .f (.sl _ .letter le), .f (.sc (.string bo)), .f (.sc (.int .i64 su)),
      .f (.sl _ .call cl), .f (.sl _ .talk ta), .f (.sl _ .int to)] => some ⟨t, fr, kn, ca, ho, le, bo, su, cl, ta, to⟩
  | _ => none

def elV (k : Kind) (x : El k) : V := .agg ((cellsOf k x).map .f)

mutual
def cast (v : V) : Sh → Option V
  | .raw => some v
  | .bool => ((unC v).bind fBool).bind fun b => some (.bool b)
  | .int => ((unC v).bind fInt).bind fun n => some (.int n)
  | .u8 => ((unC v).bind fU8).bind fun n => some (.u8 n)
  | .str => ((unC v).bind fStr).bind fun s => some (.str s)
  | .sl k => ((unC v).bind (fSl k)).bind fun l => some (.sl false k l)
  | .el k => (asEl k v).bind fun x => some (elV k x)
  | .cert => (asCert v).bind fun x => some (.ag (Cert.cells x))
  | .client => (asClient v).bind fun x => some (.ag (Client.cells x))
  | .server => (asServer v).bind fun x => some (.ag (Server.cells x))
  | .world => (asWorld v).bind fun x => some (.ag (WorldD.cells x))
  | .tup l => (fTup l.length v).bind fun _ => (casts v 0 l).bind fun vs => some (.tup vs)
  | .bx id off => ((unC v).bind (fBx id off)).bind fun _ => some (.c (.bx id off))
  | .row id k => ((unC v).bind (fRow id k)).bind fun _ => some (.c (.row id k))
def casts (v : V) (j : Nat) : List Sh → Option (List V)
  | [] => some []
  | s :: r => (part v j).bind fun x => (cast x s).bind fun y => (casts v (j + 1) r).bind fun ys => some (y :: ys)
end

/-- An object behind a call, taken for what it was. -/
def castC (o n : C) : Option C :=
  match o with
  | .f (.sc (.bool _)) => (fBool n).bind fun b => some (.f (.sc (.bool b)))
  | .f (.sc (.int .i64 _)) => (fInt n).bind fun b => some (.f (.sc (.int .i64 b)))
  | .f (.sc (.string _)) => (fStr n).bind fun b => some (.f (.sc (.string b)))
  | .f (.sl _ k _) => (fSl k n).bind fun l => some (.f (.sl false k l))
  | _ => some n

def castCs : List C → List C → Option (List C)
  | [], _ => some []
  | o :: os, ns => (ns.head?).bind fun n => (castC o n).bind fun x => (castCs os ns.tail).bind fun r => some (x :: r)

def asBox : Obj → Option (List C)
  | .box cs => some cs
  | _ => none

def asRow (wr : Bool) (k : Kind) : Obj → Option (List (El k))
  | .row w k' l => if w = wr then (if e : k' = k then some (e ▸ l) else none) else none
  | _ => none

def castO (o n : Obj) : Option Obj :=
  match o with
  | .box cs => (asBox n).bind fun ns => (castCs cs ns).bind fun r => bif Nat.beq ns.length cs.length then some (.box r) else none
  | .row w k _ => (asRow w k n).bind fun l => some (.row w k l)
  | .dead => some n

def castOs : List Obj → List Obj → Option (List Obj)
  | [], _ => some []
  | o :: os, ns => (ns.head?).bind fun n => (castO o n).bind fun x => (castOs os ns.tail).bind fun r => some (x :: r)

/-! ### Calls -/

def noRefs (vs : List V) : Bool := match refsVs vs with | [] => true | _ => false

/-- A callee that is handed no memory: what it hands back, its own memory frozen. -/
def pres (T : CallSem) (f : FuncId) (as : List V) : Option V :=
  (T f as []).bind fun r => frzBack (hpOf (.ret 0) 0 r.2.2) r.1

def pcall (T : CallSem) (h : Hp) (f : FuncId) (args : List V) (sh : Sh) : Option V :=
  (lmapM (snapV h) args).bind fun as => (pres T f as).bind fun v => (cast v sh).bind fun v => bif noRefs args || flatV v then some v else none

/-- What is handed back into the caller's table. -/
def handBack (h : Hp) (d : Nat) (ids : List Id) (r : V) (os ns : List Obj) : Option (V × Eff) :=
  let m2 := swap (numFrom .arg 0 ids) ++ (List.range ns.length).map fun j => (Id.ret 0 j, Id.ret d j)
  let nids := (List.range ns.length).map (Id.ret d)
  bif fresh h nids then
    (putAll h ids (os.map (renO m2))).bind fun h1 => (putAll h1 nids (ns.map (renO m2))).bind fun h2 => some (renV m2 r, .heap h2)
  else none

/-- A callee that is handed local memory. -/
def hcall (T : CallSem) (h : Hp) (d : Nat) (f : FuncId) (args : List V) : Option (V × Eff) :=
  let ids := reach h 3 (addNew [] (refsVs args))
  let m := numFrom .arg 0 ids
  bif distinct ids then
    (getAll h ids).bind fun os => (T f (renVs m args) (os.map (renO m))).bind fun r => handBack h d ids r.1 r.2.1 r.2.2
  else none

/-- The same, and what is handed back is taken for what it was. -/
def hcallS (T : CallSem) (h : Hp) (d : Nat) (f : FuncId) (args : List V) (sh : Sh) : Option (V × Eff) :=
  let ids := reach h 3 (addNew [] (refsVs args))
  let m := numFrom .arg 0 ids
  bif distinct ids then
    (getAll h ids).bind fun os => (T f (renVs m args) (os.map (renO m))).bind fun r =>
      (cast r.1 sh).bind fun v => (castOs (os.map (renO m)) r.2.1).bind fun os' => bif Nat.beq r.2.1.length os.length && isNil r.2.2 then handBack h d ids v os' [] else none
  else none

def evTs (cfg : Cfg) (fr : Fr) : List Operand → List TypeId → Option (List V)
  | [], _ => some []
  | x :: xs, T :: Ts => (evT cfg fr T x).bind fun v => (evTs cfg fr xs Ts).bind fun r => some (v :: r)
  | x :: xs, [] => none

def mnmx (mx : Bool) : List V → Option V
  | [a, b] => (asI a).bind fun x => (asI b).bind fun y => some (.int (bif mx then (if x < y then y else x) else (if y < x then y else x)))
  | _ => none

def retH (v : Option V) : Option (V × Eff) := v.map fun v => (v, .none)

def blt (cfg : Cfg) (h : Hp) (d : Nat) (b : Builtin) (args : List V) (tys : List TypeId) : Option (V × Eff) :=
  match b, args, tys with
  | .len, [x], T :: _ => (cfg.tb T).bind fun i => bif seqT i.desc x then (slen h x).map fun n => (.int n, .none) else none
  | .append, [s, x], [T, T2] => (kindT cfg T).bind fun k => (cfg.tb T2).bind fun i => bif seqT i.desc x then app h d k s x else none
  | .min, l, _ => retH (mnmx false l)
  | .max, l, _ => retH (mnmx true l)
  | _, _, _ => none

def callV (cfg : Cfg) (T Ti : CallSem) (me : FuncId) (h : Hp) (d : Nat) (ty : TypeId) (f : V) (args : List V) : Option (V × Eff) :=
  match f with
  | .c (.fn g caps) =>
    (match cfg.hm me g with
    | .pure => retH (pcall T h g (args ++ caps.map .c) (cfg.sh ty))
    | .heap => hcallS T h d g (args ++ caps.map .c) (cfg.sh ty)
    | .inline => hcall Ti h d g (args ++ caps.map .c))
  | _ => none

/-- A new box in slot d. -/
def nbox (d : Nat) (cs : List C) : Option (V × Eff) := some (.c (.bx (.own d) 0), .put (.own d) (.box cs))

def ptrV : V → Option V
  | .c (.bx id o) => some (.c (.bx id o))
  | .c (.re id k i o) => some (.c (.re id k i o))
  | .c (.f (.ep k x o)) => some (.c (.f (.ep k x o)))
  | _ => none

def oneC : V → Option C
  | .c y => some y
  | _ => none

/-- One operation. -/
def aop (cfg : Cfg) (T Ti : CallSem) (me : FuncId) (fr : Fr) (h : Hp) (dst : Option Nat) (ty : TypeId) : Op → Option (V × Eff)
  | .move x => retH (evT cfg fr ty x)
  | .assign x => retH (evT cfg fr ty x)
  | .pick c a b => (ev fr c).bind fun c => (asB c).bind fun c => bif c then retH (evT cfg fr ty a) else retH (evT cfg fr ty b)
  | .alloc t => dst.bind fun d => (cfg.tb t).bind fun i => nbox d i.zero
  | .box t x => dst.bind fun d => (cfg.tb t).bind fun i => (evT cfg fr t x).bind fun v => (cellsV v).bind fun cs => bif Nat.beq cs.length i.size then nbox d cs else none
  | .build t ps => retH (bld cfg fr t ps.toList)
  | .buildSlice t n ps => retH (bldS cfg fr t n ps.toList)
  | .load t a => (ev fr a).bind fun a => retH (ld cfg h t a)
  | .store t a x => (ev fr a).bind fun a => (evT cfg fr t x).bind fun v => (st cfg h t a v).map fun h' => (.c .und, .heap h')
  | .nilCheck x => (ev fr x).bind fun v => retH (ptrV v)
  | .binOp op t x y _ => (ev fr x).bind fun a => (ev fr y).bind fun b => retH (bin cfg op t (isConst y) a b)
  | .unOp op _ x => (ev fr x).bind fun a => retH (un op a)
  | .convert s t x => (ev fr x).bind fun a => retH (cnv cfg s t a)
  | .makeSlice t n c => dst.bind fun d => (ev fr n).bind fun n => (ev fr c).bind fun c => mk cfg d t n c
  | .makeFunc (.func f) first caps => bif first.isEmpty then (lmapM (fun x => (ev fr x).bind oneC) caps.toList).map fun cs => (.c (.fn f cs), .none) else none
  | .slice t x lo hi mx => (ev fr x).bind fun v => retH (slc cfg fr t v lo hi mx)
  | .fieldAddr t a j => (ev fr a).bind fun a => retH (fldA cfg t a j)
  | .field t x j => (ev fr x).bind fun v => retH (fld cfg t v j)
  | .indexAddr t x i => (ev fr x).bind fun x => (ev fr i).bind fun i => retH (ixA cfg h t x i)
  | .index t x i => (ev fr x).bind fun x => (ev fr i).bind fun i => retH (ix cfg t x i)
  | .extract t j => (ev fr t).bind fun v => retH (part v j)
  | .call c => dst.bind fun d => (evTs cfg fr c.args.toList c.argTypes.toList).bind fun args =>
      match c.callee with
      | .value f => (ev fr f).bind fun f => callV cfg T Ti me h d ty f args
      | .builtin b => blt cfg h d b args c.argTypes.toList
      | .invoke _ _ => none
  | _ => none

/-! ### Regions -/

def guardA (fr : Fr) (ops : List Oper) : Option (Nat × Bool) → Option Bool
  | none => some true
  | some (j, want) => ((ops[j]?).bind (·.dst)).bind fun t => match fr t with
      | .c (.f (.sc (.bool b))) => some (b == want)
      | .c .und => some false
      | _ => none

def putD (nt : Nat) (fr : Fr) (dst : Option Nat) (v : V) : Option Fr :=
  match dst with
  | some d => bif Nat.blt d nt then some (upd fr d v) else none
  | none => some fr

def stepO (cfg : Cfg) (T Ti : CallSem) (me nt : Nat) (ops : List Oper) (o : Oper) (s : St) : Option St :=
  (guardA s.fr ops o.guard).bind fun g =>
  bif g then (aop cfg T Ti me s.fr s.h o.dst o.type o.op).bind fun r => (applyE s.h r.2).bind fun h' => (putD nt s.fr o.dst r.1).bind fun fr' => some ⟨fr', h'⟩
  else (putD nt s.fr o.dst (.c .und)).bind fun fr' => some ⟨fr', s.h⟩

def runOps (cfg : Cfg) (T Ti : CallSem) (me nt : Nat) (ops : List Oper) : List Oper → St → Option St
  | [], s => some s
  | o :: r, s => (stepO cfg T Ti me nt ops o s).bind (runOps cfg T Ti me nt ops r)

/-! A region that draws its order: what is read is read from the table 'hr' as it was behind the last write. -/

inductive Cls where
  | pure | reads | writes | lload | lstore
  deriving DecidableEq

def Cls.isPure : Cls → Bool | .pure => true | _ => false
/-- Carried out on the table as it is now. -/
def Cls.isW : Cls → Bool | .writes => true | .lstore => true | _ => false

def clsOf (cfg : Cfg) (me : FuncId) : Op → Cls
  | .load .. | .indexAddr .. | .alloc _ | .box .. | .makeSlice .. => .reads
  | .store .. => .writes
  | .call { callee := .builtin .append, .. } => .writes
  | .call { callee := .builtin .len, .. } => .reads
  | .call { callee := .builtin _, .. } => .pure
  | .call { callee := .value (.func f), .. } => (match cfg.hm me f with | .pure => .reads | _ => .writes)
  | .call _ => .writes
  | _ => .pure

def waitsFor (o : Oper) (i : Nat) : Bool := o.after.toList.any fun e => Region.binds .any e && Nat.beq e.on i

/-- All but the pure ones stand in an order to number i. -/
def ordered (cfg : Cfg) (me : FuncId) (ops : List Oper) (i : Nat) (o : Oper) : Bool :=
  ops.zipIdx.all fun (x, j) => Nat.beq i j || (clsOf cfg me x.op).isPure || waitsFor o j || waitsFor x i

def isAppend : Op → Bool
  | .call { callee := .builtin .append, .. } => true
  | _ => false
def isLoad : Op → Bool
  | .load .. => true
  | _ => false
def isStore : Op → Bool
  | .store .. => true
  | _ => false

/-- Some operation of a sort stands in no order to number i. -/
def looseTo (p : Op → Bool) (ops : List Oper) (i : Nat) (o : Oper) : Bool :=
  ops.zipIdx.any fun (x, j) => !Nat.beq i j && p x.op && !waitsFor o j && !waitsFor x i

/-- An append that stands in no order to something else only reads (it must make a new row then). A load and a store that stand in no order are loose. -/
def clsIn (cfg : Cfg) (me : FuncId) (ops : List Oper) (i : Nat) (o : Oper) : Cls :=
  bif isAppend o.op then (bif ordered cfg me ops i o then .writes else .reads)
  else bif isLoad o.op then (bif looseTo isStore ops i o then .lload else .reads)
  else bif isStore o.op then (bif looseTo isLoad ops i o then .lstore else .writes)
  else clsOf cfg me o.op

structure SD where
  fr : Fr
  h : Hp
  hr : Hp

def quietE : Eff → Bool
  | .heap _ => false
  | _ => true

def addrId : V → Option Id
  | .c (.bx id _) => some id
  | .c (.re id _ _ _) => some id
  | _ => none

def stId (fr : Fr) : Op → Option Id
  | .store _ a _ => (ev fr a).bind addrId
  | _ => none

def ldId (fr : Fr) : Op → Option Id
  | .load _ a => (ev fr a).bind addrId
  | _ => none

/-- Loose loads look at none of the objects that loose stores write. -/
def okD (dl : List Id) (c : Cls) (fr : Fr) (op : Op) : Bool :=
  match c with
  | .lload => (match ldId fr op with | some id => !memId id dl | none => true)
  | .lstore => (match stId fr op with | some id => memId id dl | none => false)
  | _ => true

def nextHr (c : Cls) (fr : Fr) (op : Op) (h' hr : Hp) : Hp :=
  match c with
  | .writes => h'
  | .lstore => (match stId fr op with
    | some id => (match h' id with | some ob => hput hr id ob | none => hr)
    | none => hr)
  | _ => hr

def stepD (cfg : Cfg) (T Ti : CallSem) (me nt : Nat) (dl : List Id) (ops : List Oper) (c : Cls) (o : Oper) (s : SD) : Option SD :=
  (guardA s.fr ops o.guard).bind fun g =>
  bif g then
    bif okD dl c s.fr o.op then
      (aop cfg T Ti me s.fr (bif c.isW then s.h else s.hr) o.dst o.type o.op).bind fun r => bif c.isW || quietE r.2 then
        (applyE s.h r.2).bind fun h' => (putD nt s.fr o.dst r.1).bind fun fr' => some ⟨fr', h', nextHr c s.fr o.op h' s.hr⟩ else none
    else none
  else (putD nt s.fr o.dst (.c .und)).bind fun fr' => some ⟨fr', s.h, s.hr⟩

def runD (cfg : Cfg) (T Ti : CallSem) (me nt : Nat) (dl : List Id) (ops : List Oper) : Nat → List Oper → SD → Option SD
  | _, [], s => some s
  | i, o :: r, s => (stepD cfg T Ti me nt dl ops (clsIn cfg me ops i o) o s).bind (runD cfg T Ti me nt dl ops (i + 1) r)

def compat (a b : Cls) : Bool := a.isPure || b.isPure || (!a.isW && !b.isW) || (match a, b with | .lload, .lstore => true | .lstore, .lload => true | _, _ => false)

/-- Number i may come first: what doesn't wait for it is apart from it. -/
def freeAt (cfg : Cfg) (me : FuncId) (ops : Array Oper) (i : Nat) (o : Oper) : Bool :=
  ops.toList.zipIdx.all fun (x, j) => Nat.ble j i || waitsFor x i ||
    (o.apart ops x && compat (clsIn cfg me ops.toList i o) (clsIn cfg me ops.toList j x))

def noSel : Op → Bool
  | .select .. => false
  | _ => true

def drawOk (cfg : Cfg) (me : FuncId) (ops : Array Oper) : Bool :=
  ops.toList.zipIdx.all fun (o, i) => noSel o.op && freeAt cfg me ops i o && o.after.toList.all fun e => !Region.binds .any e || Nat.blt e.on i

def region (cfg : Cfg) (T Ti : CallSem) (me nt : Nat) (id : Nat) (ops : Array Oper) (draw : Bool) (s : St) : Option St :=
  bif draw then
    bif drawOk cfg me ops then (runD cfg T Ti me nt (cfg.dl me id) ops.toList 0 ops.toList ⟨s.fr, s.h, s.h⟩).map fun s => ⟨s.fr, s.h⟩ else none
  else runOps cfg T Ti me nt ops.toList ops.toList s

/-! ### Code -/

inductive Ex where
  | nrm
  | ext (id : Nat)
  | ret

/-- A list of slots, laid out. -/
def frOf : List (Nat × V) → Fr
  | [] => fun _ => .c .hole
  | (s, v) :: r => fun t => bif Nat.beq t s then v else frOf r t

def hpIds : List (Id × Obj) → Hp
  | [] => fun _ => none
  | (i, o) :: r => fun j => bif Id.beq j i then some o else hpIds r j

def atPlace (s : St) : Place → Option C
  | .slot t => match s.fr t with | .c x => some x | _ => none
  | .cell id off => match s.h id with | some (.box cs) => cs[off]? | _ => none

/-- The names that are kept, old and new. -/
def keepMap (s : St) (k : Keep) : List (Id × Id) :=
  k.objs.map (fun i => (i, i)) ++ k.rows.filterMap fun (p, j) => match atPlace s p with | some (.row i _) => some (i, j) | _ => none

/-- The rows, under their new names; a tight slice is taken for a row. -/
def keepRows (s : St) (m : List (Id × Id)) : List (Place × Id) → List (Id × Obj)
  | [] => []
  | (p, j) :: r => (match atPlace s p with
      | some (.row i _) => (match s.h i with | some o => [(j, renO m o)] | none => [])
      | some (.f (.sl true k l)) => [(j, .row (isNil l) k l)]
      | _ => []) ++ keepRows s m r

/-- A tight slice's place holds the row. -/
def thawAt (j : Id) : C → C
  | .f (.sl true k _) => .row j k
  | c => c

def thawV (j : Id) : V → V
  | .c x => .c (thawAt j x)
  | v => v

def Place.beq : Place → Place → Bool
  | .slot a, .slot b => Nat.beq a b
  | .cell a i, .cell b j => Id.beq a b && Nat.beq i j
  | _, _ => false

def findRow (p : Place) : List (Place × Id) → Option Id
  | [] => none
  | (q, j) :: r => bif Place.beq q p then some j else findRow p r

def thawCs (rows : List (Place × Id)) (i : Id) : Nat → List C → List C
  | _, [] => []
  | off, c :: cs => (match findRow (.cell i off) rows with | some j => thawAt j c | none => c) :: thawCs rows i (off + 1) cs

def thawO (rows : List (Place × Id)) (i : Id) : Obj → Obj
  | .box cs => .box (thawCs rows i 0 cs)
  | o => o

def keepObjs (s : St) (m : List (Id × Id)) (rows : List (Place × Id)) : List Id → List (Id × Obj)
  | [] => []
  | i :: r => (match s.h i with | some o => [(i, thawO rows i (renO m o))] | none => []) ++ keepObjs s m rows r

def keepSlots (s : St) (m : List (Id × Id)) (rows : List (Place × Id)) : List Nat → List (Nat × V)
  | [] => []
  | t :: r => (t, match findRow (.slot t) rows with | some j => thawV j (renV m (s.fr t)) | none => renV m (s.fr t)) :: keepSlots s m rows r

/-- At a loop's head: what is not kept is forgotten, rows get their names. -/
def clean (na : Nat) (k : Keep) (s : St) : Option St :=
  let m := keepMap s k
  bif distinct (k.objs ++ k.rows.map (·.2)) && distinct (m.map (·.1)) && allIn k.objs ((List.range na).map Id.arg) then
    some ⟨frOf (keepSlots s m k.rows k.slots), hpIds (keepObjs s m k.rows k.objs ++ keepRows s m k.rows)⟩ else none

/-- The number of the first region. -/
def firstRegion : Code → Nat
  | .region id _ _ => id
  | .seq a _ => firstRegion a
  | .block _ b => firstRegion b
  | .loop b => firstRegion b
  | _ => 0

def loopA (na : Nat) (body : St → Option (Ex × St)) (k ko : Keep) : Nat → St → Option (Ex × St)
  | 0, _ => none
  | n + 1, s => (body s).bind fun r => match r.1 with
      | .nrm => (clean na k r.2).bind (loopA na body k ko n)
      | e => (clean na ko r.2).bind fun s' => some (e, s')

def castSlots (fr : Fr) : List (Nat × Sh) → Option (List (Nat × V))
  | [] => some []
  | p :: r => (cast (fr p.1) p.2).bind fun v => (castSlots fr r).bind fun l => some ((p.1, v) :: l)

def castBox (cs : List C) (j : Nat) : List Sh → Option (List C)
  | [] => some []
  | s :: r => (cs[j]?).bind fun c => (cast (.c c) s).bind fun v => (unC v).bind fun c' => (castBox cs (j + 1) r).bind fun l => some (c' :: l)

def asAggC : V → Option (List C)
  | .agg cs => some cs
  | _ => none

def castObj (o : Obj) : OSh → Option Obj
  | .box l => (asBox o).bind fun cs => (castBox cs 0 l).bind fun r => bif Nat.beq cs.length l.length then some (.box r) else none
  | .row w k => (asRow w k o).bind fun l => some (.row w k l)
  | .recd s => (asBox o).bind fun cs => (cast (.agg cs) s).bind fun v => (asAggC v).bind fun r => some (.box r)

def castObjs (h : Hp) : List (Id × OSh) → Option (List (Id × Obj))
  | [] => some []
  | p :: r => (h p.1).bind fun o => (castObj o p.2).bind fun x => (castObjs h r).bind fun l => some ((p.1, x) :: l)

def idMap (l : List (Id × OSh)) : List (Id × Id) := l.map fun p => (p.1, p.1)

/-- What stands behind a loop, taken for what it is. -/
def castSt (na : Nat) (s : St) (sh : List (Nat × Sh)) (osh : List (Id × OSh)) : Option St :=
  (castSlots s.fr sh).bind fun a => (castObjs s.h osh).bind fun b =>
    bif distinct (osh.map (·.1)) && allIn (osh.map (·.1)) ((List.range na).map Id.arg) then
      some ⟨frOf (a.map fun p => (p.1, renV (idMap osh) p.2)), hpIds (b.map fun p => (p.1, renO (idMap osh) p.2))⟩ else none

def isN : Ex → Bool
  | .nrm => true
  | _ => false

def leave (id : Nat) : Ex → Ex
  | .ext j => bif Nat.beq j id then .nrm else .ext j
  | e => e

/-- Code, with at most n rounds a loop. -/
def aexec (cfg : Cfg) (T Ti : CallSem) (me nt na n : Nat) : Code → St → Option (Ex × St)
  | .skip, s => some (.nrm, s)
  | .region id ops draw, s => (region cfg T Ti me nt id ops draw s).map fun s => (.nrm, s)
  | .seq a b, s => (aexec cfg T Ti me nt na n a s).bind fun r => bif isN r.1 then aexec cfg T Ti me nt na n b r.2 else some r
  | .cond c a b, s => (ev s.fr c).bind fun v => (asB v).bind fun t => bif t then aexec cfg T Ti me nt na n a s else aexec cfg T Ti me nt na n b s
  | .block id b, s => (aexec cfg T Ti me nt na n b s).map fun r => (leave id r.1, r.2)
  | .loop b, s =>
    let l := cfg.lh me (firstRegion b)
    (clean na l.head s).bind fun s => (loopA na (aexec cfg T Ti me nt na n b) l.head l.out n s).bind fun r => (castSt na r.2 l.sh l.osh).bind fun s' => some (r.1, s')
  | .exit id, s => some (.ext id, s)
  | .ret, s => some (.ret, s)
  | _, _ => none

/-! ### Functions -/

def frArgs : List V → Fr
  | [] => fun _ => .c .und
  | v :: r => fun t => match t with | 0 => v | t + 1 => frArgs r t

def resV (cfg : Cfg) (s : St) : ResultVar → Option V
  | .tmp t => some (s.fr t)
  | .cell t T => ld cfg s.h T (s.fr t)

def resVs (cfg : Cfg) (s : St) : List ResultVar → Option (List V)
  | [] => some []
  | r :: rs => (resV cfg s r).bind fun v => (resVs cfg s rs).bind fun vs => some (v :: vs)

def packV : List V → V
  | [v] => v
  | vs => .tup vs

def isArg : Id → Bool
  | .arg _ => true
  | _ => false

/-- What leaves a call: the result, the objects that were handed in, the new ones. -/
def finishA (h : Hp) (na : Nat) (v : V) : Option (V × List Obj × List Obj) :=
  let as := (List.range na).map Id.arg
  let ns := (reach h 3 (addNew as (refsV v))).filter fun i => !isArg i
  let m := as.map (fun i => (i, i)) ++ numFrom (.ret 0) 0 ns
  bif distinct ns then
    (getAll h as).bind fun os => (getAll h ns).bind fun os2 => some (renV m v, os.map (renO m), os2.map (renO m))
  else none

def bodyA (cfg : Cfg) (T Ti : CallSem) (n f : Nat) (fn : Func) (c : Code) (args : List V) (objs : List Obj) : Option (V × List Obj × List Obj) :=
  bif Nat.ble args.length fn.ntmps then
    (aexec cfg T Ti f fn.ntmps objs.length n c ⟨frArgs args, hpOf .arg 0 objs⟩).bind fun r => match r.1 with
      | .ext _ => none
      | _ => (resVs cfg r.2 fn.results.toList).bind fun vs => finishA r.2.h objs.length (packV vs)
  else none

def run (P : Program) (cfg : Cfg) : Nat → CallSem
  | 0 => fun _ _ _ => none
  | n + 1 => fun f args objs => match cfg.ext f with
      | some g => g args objs
      | none => match P.funcs[f]? with
        | some fn => match fn.body with
          | some c => bodyA cfg (run P cfg n) (run P cfg n) n f fn c args objs
          | none => none
        | none => none

open Classical in
/-- What a function answers, whatever the number of rounds. -/
noncomputable def rn (P : Program) (cfg : Cfg) : CallSem := fun f args objs =>
  if h : ∃ r, ∃ N, ∀ n, N ≤ n → run P cfg n f args objs = some r then some (Classical.choose h) else none

end Go.Vm

namespace Go.Vm
set_option linter.unusedVariables false

/-- A test that stays. -/
def br {α : Type} (b : Bool) (x y : α) : α :=
  match b with
  | true => x
  | false => y

/-- A query: what it answers is unknown. -/
def qb {α β : Type} (o : Option α) (f : α → Option β) : Option β :=
  match o with
  | some a => f a
  | none => none

section
variable {α : Type}

/-- A cell, a value, an object written out before it is kept. -/
def forceC (c : C) (k : C → Option α) : Option α :=
  match c with
  | .f (.sc (.int kd n)) => k (.f (.sc (.int kd n)))
  | .f (.sc (.bool b)) => k (.f (.sc (.bool b)))
  | .f (.sc (.string s)) => k (.f (.sc (.string s)))
  | .f (.sc v) => k (.f (.sc v))
  | .f (.sl t kd l) => k (.f (.sl t kd l))
  | .f (.ep kd x off) => k (.f (.ep kd x off))
  | .f .err => k (.f .err)
  | .bx id off => k (.bx id off)
  | .row id kd => k (.row id kd)
  | .re id kd i off => k (.re id kd i off)
  | .fn f caps => k (.fn f caps)
  | .hole => k .hole
  | .und => k .und

def forceCs : List C → (List C → Option α) → Option α
  | [], k => k []
  | c :: cs, k => forceC c fun c' => forceCs cs fun cs' => k (c' :: cs')

def forceV (v : V) (k : V → Option α) : Option α :=
  match v with
  | .c x => forceC x fun x' => k (.c x')
  | .agg cs => forceCs cs fun cs' => k (.agg cs')
  | .tup vs => k (.tup vs)

def forceO (o : Obj) (k : Obj → Option α) : Option α :=
  match o with
  | .box cs => forceCs cs fun cs' => k (.box cs')
  | .row w kd l => k (.row w kd l)
  | .dead => k .dead

/-- A call that is handed local memory. -/
def hq (T : CallSem) (f : FuncId) (as : List V) (os : List Obj) : Option (V × List Obj × List Obj) := T f as os

end

/-! ### What a shape holds, as plain data -/

mutual
@[reducible] def ShTy : Sh → Type
  | .raw => V
  | .bool => Bool
  | .int => Int
  | .u8 => Int
  | .str => ByteArray
  | .sl k => List (El k)
  | .el k => El k
  | .cert => Cert
  | .client => Client
  | .server => Server
  | .world => WorldD
  | .tup l => ShTys l
  | .bx _ _ => Unit
  | .row _ _ => Unit
@[reducible] def ShTys : List Sh → Type
  | [] => Unit
  | s :: r => ShTy s × ShTys r
end

mutual
def enc : (s : Sh) → ShTy s → V
  | .raw, v => v
  | .bool, b => .bool b
  | .int, n => .int n
  | .u8, n => .u8 n
  | .str, s => .str s
  | .sl k, l => .sl false k l
  | .el k, x => elV k x
  | .cert, x => .ag (Cert.cells x)
  | .client, x => .ag (Client.cells x)
  | .server, x => .ag (Server.cells x)
  | .world, x => .ag (WorldD.cells x)
  | .tup l, x => .tup (encs l x)
  | .bx id off, _ => .c (.bx id off)
  | .row id k, _ => .c (.row id k)
def encs : (l : List Sh) → ShTys l → List V
  | [], _ => []
  | s :: r, x => enc s x.1 :: encs r x.2
end

/-! What is read is written anew here: the machine's own words stay queries. -/

def gC : V → Option C
  | .c x => some x
  | _ => none
def gBool : C → Option Bool
  | .f (.sc (.bool b)) => some b
  | _ => none
def gInt : C → Option Int
  | .f (.sc (.int .i64 n)) => some n
  | _ => none
def gU8 : C → Option Int
  | .f (.sc (.int .u8 n)) => some n
  | _ => none
def gStr : C → Option ByteArray
  | .f (.sc (.string s)) => some s
  | _ => none
def gSl (k : Kind) : C → Option (List (El k))
  | .f (.sl _ k' l) => if e : k' = k then some (e ▸ l) else none
  | _ => none
def gBx (id : Id) (off : Nat) : C → Option Unit
  | .bx id' off' => bif Id.beq id' id && Nat.beq off' off then some () else none
  | _ => none
def gRow (id : Id) (k : Kind) : C → Option Unit
  | .row id' k' => bif Id.beq id' id && decide (k' = k) then some () else none
  | _ => none
def gTup (n : Nat) : V → Option Unit
  | .tup vs => bif Nat.beq vs.length n then some () else none
  | _ => none
def gPart (v : V) (j : Nat) : Option V :=
  match v with
  | .tup vs => vs[j]?
  | _ => none
def gEl (k : Kind) : V → Option (El k)
  | .agg cs => (lmapM frzC cs).bind (ofCells k)
  | _ => none
def gCert : V → Option Cert
  | .agg [.f (.sc (.string h)), .f (.sc (.int .i64 a)), .f (.sc (.int .i64 b)), .f (.sc (.string s)), .f (.sl _ .term l), .f (.sc (.int .i64 u))] => some ⟨h, ⟨a, b, s, l⟩, u⟩
  | _ => none
def gClient : V → Option Client
  | .agg [.f (.sc (.int .i64 st)), .f (.sc (.string h)), .f (.sc (.bool m)), .f (.sc (.int .i64 e)), .f (.sc (.int .i64 b)), .f (.sc (.int .i64 to)), .f (.sc (.int .i64 tn)), .f (.sc (.string ts)), .f (.sl _ .term tk),
      .f (.sc (.int .i64 i)), .f (.sc (.int .i64 o)), .f (.sc (.bool tl)), .f (.sc (.bool p))] => some ⟨st, h, m, e, b, ⟨to, tn, ts, tk⟩, i, o, tl, p⟩
  | _ => none
def gServer : V → Option Server
  | .agg [.f (.sc (.int .i64 st)), .f (.sc (.string nm)), .f (.sc (.int .i64 k)), .f (.sc (.int .i64 e)), .f (.sc (.int .i64 co)), .f (.sc (.int .i64 cn)), .f (.sc (.string cs)), .f (.sl _ .term ck),
      .f (.sc (.int .i64 so)), .f (.sc (.int .i64 sn)), .f (.sc (.string ss)), .f (.sl _ .term sk), .f (.sc (.int .i64 i)), .f (.sc (.int .i64 o)), .f (.sc (.bool tl)), .f (.sl _ .int g)] =>
      some ⟨st, nm, k, e, ⟨co, cn, cs, ck⟩, ⟨so, sn, ss, sk⟩, i, o, tl, g⟩
  | _ => none
def gWorld : V → Option WorldD
  | .agg [.f (.sc (.int .i64 t)), .f (.sc (.int .i64 fr)), .f (.sl _ .term kn), .f (.sl _ .policy ca), .f (.sl _ .host ho), .f (.sl _ .letter le), .f (.sc (.string bo)), .f (.sc (.int .i64 su)),
      .f (.sl _ .call cl), .f (.sl _ .talk ta), .f (.sl _ .int to)] => some ⟨t, fr, kn, ca, ho, le, bo, su, cl, ta, to⟩
  | _ => none

mutual
def dec : (s : Sh) → V → Option (ShTy s)
  | .raw, v => some v
  | .bool, v => (gC v).bind gBool
  | .int, v => (gC v).bind gInt
  | .u8, v => (gC v).bind gU8
  | .str, v => (gC v).bind gStr
  | .sl k, v => (gC v).bind (gSl k)
  | .el k, v => gEl k v
  | .cert, v => gCert v
  | .client, v => gClient v
  | .server, v => gServer v
  | .world, v => gWorld v
  | .tup l, v => (gTup l.length v).bind fun _ => decs l v 0
  | .bx id off, v => (gC v).bind (gBx id off)
  | .row id k, v => (gC v).bind (gRow id k)
def decs : (l : List Sh) → V → Nat → Option (ShTys l)
  | [], _, _ => some ()
  | s :: r, v, j => (gPart v j).bind fun x => (dec s x).bind fun y => (decs r v (j + 1)).bind fun ys => some (y, ys)
end

/-- What a call of a function that is handed nothing answers, as plain data. -/
def presT (T : CallSem) (f : FuncId) (as : List V) (sh : Sh) : Option (ShTy sh) := (pres T f as).bind (dec sh)

/-! Objects behind a call. -/

@[reducible] def CTy : C → Type
  | .f (.sc (.bool _)) => Bool
  | .f (.sc (.int .i64 _)) => Int
  | .f (.sc (.string _)) => ByteArray
  | .f (.sl _ k _) => List (El k)
  | _ => Unit

def encC : (o : C) → CTy o → C
  | .f (.sc (.bool _)), b => .f (.sc (.bool b))
  | .f (.sc (.int .i64 _)), n => .f (.sc (.int .i64 n))
  | .f (.sc (.string _)), s => .f (.sc (.string s))
  | .f (.sl _ k _), l => .f (.sl false k l)
  | c, _ => c

def decC : (o : C) → C → Option (CTy o)
  | .f (.sc (.bool _)), c => gBool c
  | .f (.sc (.int .i64 _)), c => gInt c
  | .f (.sc (.string _)), c => gStr c
  | .f (.sl _ k _), c => gSl k c
  | .row id k, c => gRow id k c
  | _, _ => none

@[reducible] def CTys : List C → Type
  | [] => Unit
  | c :: r => CTy c × CTys r

def encCs : (l : List C) → CTys l → List C
  | [], _ => []
  | c :: r, x => encC c x.1 :: encCs r x.2

def decCs : (l : List C) → List C → Option (CTys l)
  | [], [] => some ()
  | c :: r, d :: ds => (decC c d).bind fun x => (decCs r ds).bind fun xs => some (x, xs)
  | _, _ => none

@[reducible] def ObTy : Obj → Type
  | .box cs => CTys cs
  | .row _ k _ => List (El k)
  | .dead => Unit

def encOb : (o : Obj) → ObTy o → Obj
  | .box cs, x => .box (encCs cs x)
  | .row w k _, l => .row w k l
  | .dead, _ => .dead

def gBox : Obj → Option (List C)
  | .box cs => some cs
  | _ => none
def gRowO (wr : Bool) (k : Kind) : Obj → Option (List (El k))
  | .row w k' l => if w = wr then (if e : k' = k then some (e ▸ l) else none) else none
  | _ => none

def decOb : (o : Obj) → Obj → Option (ObTy o)
  | .box cs, n => (gBox n).bind fun ds => decCs cs ds
  | .row w k _, n => gRowO w k n
  | .dead, n => match n with | .dead => some () | _ => none

@[reducible] def ObTys : List Obj → Type
  | [] => Unit
  | o :: r => ObTy o × ObTys r

def encObs : (l : List Obj) → ObTys l → List Obj
  | [], _ => []
  | o :: r, x => encOb o x.1 :: encObs r x.2

def decObs : (l : List Obj) → List Obj → Option (ObTys l)
  | [], [] => some ()
  | o :: r, n :: ns => (decOb o n).bind fun x => (decObs r ns).bind fun xs => some (x, xs)
  | _, _ => none

/-- What a call that is handed local memory answers, as plain data: the result, the objects. -/
def hqT (T : CallSem) (f : FuncId) (as : List V) (os : List Obj) (sh : Sh) : Option (ShTy sh × ObTys os) :=
  (hq T f as os).bind fun r => bif isNil r.2.2 then (dec sh r.1).bind fun x => (decObs os r.2.1).bind fun y => some (x, y) else none

/-! Behind a loop. -/

@[reducible] def SlTys : List (Nat × Sh) → Type
  | [] => Unit
  | p :: r => ShTy p.2 × SlTys r

def encSl : (l : List (Nat × Sh)) → SlTys l → List (Nat × V)
  | [], _ => []
  | p :: r, x => (p.1, enc p.2 x.1) :: encSl r x.2

def decSl : (l : List (Nat × Sh)) → Fr → Option (SlTys l)
  | [], _ => some ()
  | p :: r, fr => (dec p.2 (fr p.1)).bind fun x => (decSl r fr).bind fun xs => some (x, xs)

@[reducible] def OshTy : OSh → Type
  | .box l => ShTys l
  | .row _ k => List (El k)
  | .recd s => ShTy s

def cOf : V → C
  | .c x => x
  | _ => .hole
def aggOf : V → List C
  | .agg cs => cs
  | _ => []

def encOsh : (s : OSh) → OshTy s → Obj
  | .box l, x => .box ((encs l x).map cOf)
  | .row w k, l => .row w k l
  | .recd s, x => .box (aggOf (enc s x))

def decBx : (l : List Sh) → List C → Option (ShTys l)
  | [], [] => some ()
  | s :: r, c :: cs => (dec s (.c c)).bind fun x => (decBx r cs).bind fun xs => some (x, xs)
  | _, _ => none

def decOsh : (s : OSh) → Obj → Option (OshTy s)
  | .box l, o => (gBox o).bind fun cs => decBx l cs
  | .row w k, o => gRowO w k o
  | .recd s, o => (gBox o).bind fun cs => dec s (.agg cs)

@[reducible] def OsTys : List (Id × OSh) → Type
  | [] => Unit
  | p :: r => OshTy p.2 × OsTys r

def encOs : (l : List (Id × OSh)) → OsTys l → List (Id × Obj)
  | [], _ => []
  | p :: r, x => (p.1, encOsh p.2 x.1) :: encOs r x.2

def decOs : (l : List (Id × OSh)) → Hp → Option (OsTys l)
  | [], _ => some ()
  | p :: r, h => (h p.1).bind fun o => (decOsh p.2 o).bind fun x => (decOs r h).bind fun xs => some (x, xs)

@[reducible] def LoopTy (l : LoopH) : Type := Ex × SlTys l.sh × OsTys l.osh

/-- What a loop comes to, as plain data. -/
def loopT (l : LoopH) (o : Option (Ex × St)) : Option (LoopTy l) :=
  o.bind fun r => (decSl l.sh r.2.fr).bind fun a => (decOs l.osh r.2.h).bind fun b => some (r.1, a, b)

section
variable {α : Type}

abbrev CallK (α : Type) := FuncId → List V → List Obj → (V → List Obj → List Obj → Option α) → Option α

def pcallK (T : CallSem) (h : Hp) (f : FuncId) (args : List V) (sh : Sh) (k : V → Option α) : Option α :=
  (lmapM (snapV h) args).bind fun as => qb (presT T f as sh) fun x => bif noRefs args || flatV (enc sh x) then k (enc sh x) else none

def hcallSK (T : CallSem) (h : Hp) (d : Nat) (f : FuncId) (args : List V) (sh : Sh) (k : V → Eff → Option α) : Option α :=
  let ids := reach h 3 (addNew [] (refsVs args))
  let m := numFrom .arg 0 ids
  bif distinct ids then
    (getAll h ids).bind fun os => qb (hqT T f (renVs m args) (os.map (renO m)) sh) fun r =>
      (handBack h d ids (enc sh r.1) (encObs (os.map (renO m)) r.2) []).bind fun p => k p.1 p.2
  else none

def hcallK (IK : CallK α) (h : Hp) (d : Nat) (f : FuncId) (args : List V) (k : V → Eff → Option α) : Option α :=
  let ids := reach h 3 (addNew [] (refsVs args))
  let m := numFrom .arg 0 ids
  bif distinct ids then
    (getAll h ids).bind fun os => IK f (renVs m args) (os.map (renO m)) fun r os' ns => (handBack h d ids r os' ns).bind fun p => k p.1 p.2
  else none

def callVK (cfg : Cfg) (T : CallSem) (IK : CallK α) (me : FuncId) (h : Hp) (d : Nat) (ty : TypeId) (f : V) (args : List V) (k : V → Eff → Option α) : Option α :=
  match f with
  | .c (.fn g caps) =>
    (match cfg.hm me g with
    | .pure => pcallK T h g (args ++ caps.map .c) (cfg.sh ty) fun v => k v .none
    | .heap => hcallSK T h d g (args ++ caps.map .c) (cfg.sh ty) k
    | .inline => hcallK IK h d g (args ++ caps.map .c) k)
  | _ => none

def binIK (op : BinOp) (kd : IntKind) (a b : Int) (k : F → Option α) : Option α :=
  match op with
  | .quo => qb (ne0 b) fun _ => k (.sc (.int kd (kd.wrap (a.tdiv b))))
  | .rem => qb (ne0 b) fun _ => k (.sc (.int kd (a.tmod b)))
  | _ => (binI op kd a b).bind k

def shfK (op : BinOp) (kd : IntKind) (a b : Int) (k : F → Option α) : Option α :=
  match op with
  | .shl => qb (ge0 b) fun _ => k (.sc (.int kd (kd.wrap (a * 2 ^ (min b.toNat kd.bits)))))
  | .shr => qb (ge0 b) fun _ => k (.sc (.int kd (a.fdiv (2 ^ (min b.toNat kd.bits)))))
  | _ => none

def binSK (op : BinOp) (x y : ByteArray) (k : F → Option α) : Option α :=
  match op with
  | .add => qb (catOk x y) fun _ => k (.str (x ++ y))
  | _ => (binS op x y).bind k

def binK (cfg : Cfg) (op : BinOp) (T : TypeId) (cy : Bool) (x y : V) (k : V → Option α) : Option α :=
  match x, y with
  | .c (.f (.sc (.int kd a))), .c (.f (.sc (.int kd' b))) => bif isShift op then shfK op kd a b fun v => k (.c (.f v)) else bif decide (kd = kd') then binIK op kd a b fun v => k (.c (.f v)) else none
  | .c (.f (.sc (.string a))), .c (.f (.sc (.string b))) => binSK op a b fun v => k (.c (.f v))
  | x, y => (bin cfg op T cy x y).bind k

def ixAK (cfg : Cfg) (h : Hp) (T : TypeId) (x i : V) (k : V → Option α) : Option α :=
  (kindT cfg T).bind fun kd =>
  (asI i).bind fun i =>
  match x with
  | .c (.f (.sl _ k' l)) => bif decide (k' = kd) then qb (idx l i) fun y => k (.c (.f (.ep k' y 0))) else none
  | .c (.row id k') => bif decide (k' = kd) then (h id).bind fun
      | .row true k2 l => bif decide (k2 = k') then qb (idx l i) fun _ => k (.c (.re id k' i.toNat 0)) else none
      | _ => none else none
  | _ => none

def ixK (cfg : Cfg) (T : TypeId) (x i : V) (k : V → Option α) : Option α :=
  (cfg.tb T).bind fun t => match t.desc, x with
  | .string, .c (.f (.sc (.string s))) => (asI i).bind fun i => qb (byteAt s i) fun b => k (.u8 b)
  | _, _ => none

def slcK (cfg : Cfg) (fr : Fr) (T : TypeId) (x : V) (lo hi mx : Option Operand) (k : V → Option α) : Option α :=
  (cfg.tb T).bind fun t =>
  (optI fr lo).bind fun l => (optI fr hi).bind fun hh =>
  match t.desc, x, mx with
  | .string, .c (.f (.sc (.string s))), none => qb (bnds s.size l hh) fun p => k (.str (s.extract p.1 p.2))
  | .slice _, .c (.f (.sl _ kd y)), none => bif decide (t.kind = some kd) then qb (bnds y.length l hh) fun p => k (.sl false kd ((y.take p.2).drop p.1)) else none
  | _, x, mx => (slc cfg fr T x lo hi mx).bind k

def ldK (cfg : Cfg) (h : Hp) (T : TypeId) (a : V) (k : V → Option α) : Option α :=
  match a with
  | .c (.re id kd j off) => (cfg.tb T).bind fun i => (h id).bind fun
      | .row _ k' l => if e : k' = kd then qb (l[j]?) fun x => bif Nat.ble (off + i.size) (szOf kd) then (valOf (isAggD i.desc) ((cut (cellsOf kd (e ▸ x)) off i.size).map .f)).bind k else none else none
      | _ => none
  | a => (ld cfg h T a).bind k

def stK (cfg : Cfg) (h : Hp) (T : TypeId) (a v : V) (k : Hp → Option α) : Option α :=
  match a with
  | .c (.re id kd j off) => (cfg.tb T).bind fun i => (cellsV v).bind fun vs => bif Nat.beq vs.length i.size then (h id).bind fun
        | .row true k' l => if e : k' = kd then qb (l[j]?) fun x => bif Nat.ble (off + i.size) (szOf kd) then
            (lmapM frzC vs).bind fun fs => (ofCells kd (putAt (cellsOf kd (e ▸ x)) off fs)).bind fun y => k (hput h id (.row true k' (l.set j (e ▸ y)))) else none else none
        | _ => none else none
  | a => (st cfg h T a v).bind k

def appRowK (h : Hp) (d : Nat) (kd : Kind) (id : Id) (l xs : List (El kd)) (k : V → Eff → Option α) : Option α :=
  br (isNil xs) (k (.c (.row id kd)) .none)
   (match h (.own d) with
    | .none => br (Nat.ble (l.length + xs.length) appMax) (k (.c (.row (.own d) kd)) (.heap (hput (hput h id .dead) (.own d) (.row true kd (l ++ xs))))) none
    | some _ => none)

def appTightK (d : Nat) (kd : Kind) (l xs : List (El kd)) (k : V → Eff → Option α) : Option α :=
  br (isNil xs) (k (.sl true kd l) .none)
   (br (Nat.ble (l.length + xs.length) appMax) (k (.c (.row (.own d) kd)) (.put (.own d) (.row true kd (l ++ xs)))) none)

def appK (h : Hp) (d : Nat) (kd : Kind) (s x : V) (k : V → Eff → Option α) : Option α :=
  (items h kd x).bind fun xs =>
  match s with
  | .c (.f (.sl true k' l)) => if e : k' = kd then appTightK d kd (e ▸ l) xs k else none
  | .c (.row id k') => (h id).bind fun
      | .row wr k2 l => if e : k2 = kd then (bif notRow id x then appRowK h d kd id (e ▸ l) xs k else none) else none
      | _ => none
  | _ => none

def mkK (cfg : Cfg) (d : Nat) (T : TypeId) (n c : V) (k : V → Eff → Option α) : Option α :=
  (kindT cfg T).bind fun kd => (asI n).bind fun n => (asI c).bind fun c =>
  br (decide (n = c) && decide (0 ≤ n) && Nat.ble n.toNat appMax) (k (.c (.row (.own d) kd)) (.put (.own d) (.row true kd (List.replicate n.toNat (zeroEl kd))))) none

def bltK (cfg : Cfg) (h : Hp) (d : Nat) (b : Builtin) (args : List V) (tys : List TypeId) (k : V → Eff → Option α) : Option α :=
  match b, args, tys with
  | .append, [s, x], [T, T2] => (kindT cfg T).bind fun kd => (cfg.tb T2).bind fun i => bif seqT i.desc x then appK h d kd s x k else none
  | b, args, tys => (blt cfg h d b args tys).bind fun r => k r.1 r.2

/-- A byte out of its cell. -/
def u8of (n : Int) : Option (El .byte) := ofCells .byte [.sc (.int .u8 n)]

/-- An element out of its cells. -/
def ofCellsK (kd : Kind) (fs : List F) (k : El kd → Option α) : Option α :=
  match kd, fs, k with
  | .byte, [.sc (.int .u8 n)], k => qb (u8of n) k
  | kd, fs, k => (ofCells kd fs).bind k

def lmapQ {β γ : Type} (f : β → (γ → Option α) → Option α) : List β → (List γ → Option α) → Option α
  | [], k => k []
  | b :: r, k => f b fun y => lmapQ f r fun ys => k (y :: ys)

def bldSK (cfg : Cfg) (fr : Fr) (T : TypeId) (n : Nat) (parts : List (Nat × Operand)) (k : V → Option α) : Option α :=
  (kindT cfg T).bind fun kd => (eltT cfg T).bind fun e =>
  bif Nat.beq parts.length n && inOrder 0 parts && Nat.ble (n * szOf kd) 1000 then
    lmapQ (fun (p : Nat × Operand) k => (evT cfg fr e p.2).bind fun v => (cellsV v).bind fun cs => (lmapM frzC cs).bind fun fs => ofCellsK kd fs k) parts fun l => k (.sl true kd l)
  else none

def aopK (cfg : Cfg) (T : CallSem) (IK : CallK α) (me : FuncId) (fr : Fr) (h : Hp) (dst : Option Nat) (ty : TypeId) (op : Op) (k : V → Eff → Option α) : Option α :=
  match op with
  | .pick c a b => (ev fr c).bind fun c => (asB c).bind fun c => br c ((evT cfg fr ty a).bind fun v => k v .none) ((evT cfg fr ty b).bind fun v => k v .none)
  | .load t a => (ev fr a).bind fun a => ldK cfg h t a fun v => k v .none
  | .store t a x => (ev fr a).bind fun a => (evT cfg fr t x).bind fun v => stK cfg h t a v fun h' => k (.c .und) (.heap h')
  | .binOp op t x y _ => (ev fr x).bind fun a => (ev fr y).bind fun b => binK cfg op t (isConst y) a b fun v => k v .none
  | .makeSlice t n c => dst.bind fun d => (ev fr n).bind fun n => (ev fr c).bind fun c => mkK cfg d t n c k
  | .buildSlice t n ps => bldSK cfg fr t n ps.toList fun v => k v .none
  | .slice t x lo hi mx => (ev fr x).bind fun v => slcK cfg fr t v lo hi mx fun v => k v .none
  | .indexAddr t x i => (ev fr x).bind fun x => (ev fr i).bind fun i => ixAK cfg h t x i fun v => k v .none
  | .index t x i => (ev fr x).bind fun x => (ev fr i).bind fun i => ixK cfg t x i fun v => k v .none
  | .call c => dst.bind fun d => (evTs cfg fr c.args.toList c.argTypes.toList).bind fun args =>
      match c.callee with
      | .value f => (ev fr f).bind fun f => callVK cfg T IK me h d ty f args k
      | .builtin b => bltK cfg h d b args c.argTypes.toList k
      | .invoke _ _ => none
  | op => (aop cfg T T me fr h dst ty op).bind fun r => k r.1 r.2

def applyK (h : Hp) (e : Eff) (k : Hp → Option α) : Option α :=
  match e with
  | .none => k h
  | .put i o => match h i with
      | .none => forceO o fun o' => k (hput h i o')
      | some _ => none
  | .heap h' => k h'

def putK (nt : Nat) (fr : Fr) (dst : Option Nat) (v : V) (k : Fr → Option α) : Option α :=
  match dst with
  | some d => bif Nat.blt d nt then forceV v fun v' => k (upd fr d v') else none
  | none => k fr

/-- A guard: where it is unknown, both ways, and it is known from there on. -/
def guardK (fr : Fr) (ops : List Oper) (g : Option (Nat × Bool)) (k : Fr → Bool → Option α) : Option α :=
  match g with
  | none => k fr true
  | some (j, want) => ((ops[j]?).bind (·.dst)).bind fun t => match fr t with
      | .c (.f (.sc (.bool b))) => br b (k (upd fr t (.bool true)) want) (k (upd fr t (.bool false)) (!want))
      | .c .und => k fr false
      | _ => none

def stepOK (cfg : Cfg) (T : CallSem) (IK : CallK α) (me nt : Nat) (ops : List Oper) (o : Oper) (fr : Fr) (h : Hp) (k : Fr → Hp → Option α) : Option α :=
  guardK fr ops o.guard fun fr g =>
  bif g then aopK cfg T IK me fr h o.dst o.type o.op fun v e => applyK h e fun h' => putK nt fr o.dst v fun fr' => k fr' h'
  else putK nt fr o.dst (.c .und) fun fr' => k fr' h

def runOpsK (cfg : Cfg) (T : CallSem) (IK : CallK α) (me nt : Nat) (ops : List Oper) : List Oper → Fr → Hp → (Fr → Hp → Option α) → Option α
  | [], fr, h, k => k fr h
  | o :: r, fr, h, k => stepOK cfg T IK me nt ops o fr h fun fr h => runOpsK cfg T IK me nt ops r fr h k

def stepDK (cfg : Cfg) (T : CallSem) (IK : CallK α) (me nt : Nat) (dl : List Id) (ops : List Oper) (c : Cls) (o : Oper) (fr : Fr) (h hr : Hp) (k : Fr → Hp → Hp → Option α) : Option α :=
  guardK fr ops o.guard fun fr g =>
  bif g then
    bif okD dl c fr o.op then
      aopK cfg T IK me fr (bif c.isW then h else hr) o.dst o.type o.op fun v e => bif c.isW || quietE e then
        applyK h e fun h' => putK nt fr o.dst v fun fr' => k fr' h' (nextHr c fr o.op h' hr) else none
    else none
  else putK nt fr o.dst (.c .und) fun fr' => k fr' h hr

def runDK (cfg : Cfg) (T : CallSem) (IK : CallK α) (me nt : Nat) (dl : List Id) (ops : List Oper) : Nat → List Oper → Fr → Hp → Hp → (Fr → Hp → Option α) → Option α
  | _, [], fr, h, hr, k => k fr h
  | i, o :: r, fr, h, hr, k => stepDK cfg T IK me nt dl ops (clsIn cfg me ops i o) o fr h hr fun fr h hr => runDK cfg T IK me nt dl ops (i + 1) r fr h hr k

def regionK (cfg : Cfg) (T : CallSem) (IK : CallK α) (me nt : Nat) (id : Nat) (ops : Array Oper) (draw : Bool) (fr : Fr) (h : Hp) (k : Fr → Hp → Option α) : Option α :=
  bif draw then
    bif drawOk cfg me ops then runDK cfg T IK me nt (cfg.dl me id) ops.toList 0 ops.toList fr h h k else none
  else runOpsK cfg T IK me nt ops.toList ops.toList fr h k

def isRetE : Ex → Bool
  | .ret => true
  | _ => false

def isExt (i : Nat) : Ex → Bool
  | .ext j => Nat.beq j i
  | _ => false

def exIds (e : Ex) (k : Ex → Option α) : List Nat → Option α
  | [] => none
  | i :: r => br (isExt i e) (k (.ext i)) (exIds e k r)

/-- Code; T and Ti: what is asked inside a loop. -/
def aexecK (cfg : Cfg) (T Ti : CallSem) (IK : CallK α) (me nt na n : Nat) : Code → Fr → Hp → (Ex → Fr → Hp → Option α) → Option α
  | .skip, fr, h, k => k .nrm fr h
  | .region id ops draw, fr, h, k => regionK cfg T IK me nt id ops draw fr h (k .nrm)
  | .seq a b, fr, h, k => aexecK cfg T Ti IK me nt na n a fr h fun e fr h => match e with
      | .nrm => aexecK cfg T Ti IK me nt na n b fr h k
      | e => k e fr h
  | .cond c a b, fr, h, k => (match c with
      | .tmp t => (asB (fr t)).bind fun t' => br t' (aexecK cfg T Ti IK me nt na n a (upd fr t (.bool true)) h k) (aexecK cfg T Ti IK me nt na n b (upd fr t (.bool false)) h k)
      | c => (ev fr c).bind fun v => (asB v).bind fun t => br t (aexecK cfg T Ti IK me nt na n a fr h k) (aexecK cfg T Ti IK me nt na n b fr h k))
  | .block id b, fr, h, k => aexecK cfg T Ti IK me nt na n b fr h fun e fr h => k (leave id e) fr h
  | .loop b, fr, h, k =>
    let l := cfg.lh me (firstRegion b)
    (clean na l.head ⟨fr, h⟩).bind fun s => qb (loopT l (loopA na (aexec cfg T Ti me nt na n b) l.head l.out n s)) fun x =>
      bif distinct (l.osh.map (·.1)) && allIn (l.osh.map (·.1)) ((List.range na).map Id.arg) then
        (br (isRetE x.1) (k .ret (frOf ((encSl l.sh x.2.1).map fun p => (p.1, renV (idMap l.osh) p.2))) (hpIds ((encOs l.osh x.2.2).map fun p => (p.1, renO (idMap l.osh) p.2))))
          (exIds x.1 (fun e => k e (frOf ((encSl l.sh x.2.1).map fun p => (p.1, renV (idMap l.osh) p.2))) (hpIds ((encOs l.osh x.2.2).map fun p => (p.1, renO (idMap l.osh) p.2)))) l.exits)) else none
  | .exit id, fr, h, k => k (.ext id) fr h
  | .ret, fr, h, k => k .ret fr h
  | _, _, _, _ => none

def bodyK (cfg : Cfg) (T Ti : CallSem) (IK : CallK α) (n f : Nat) (fn : Func) (c : Code) (args : List V) (objs : List Obj) (k : V → List Obj → List Obj → Option α) : Option α :=
  bif Nat.ble args.length fn.ntmps then
    aexecK cfg T Ti IK f fn.ntmps objs.length n c (frArgs args) (hpOf .arg 0 objs) fun e fr h => match e with
      | .ext _ => none
      | _ => (resVs cfg ⟨fr, h⟩ fn.results.toList).bind fun vs => (finishA h objs.length (packV vs)).bind fun r => forceV r.1 fun v => k v r.2.1 r.2.2
  else none

end

/-- Calls that are run on the spot, to a depth. -/
def runI (P : Program) (cfg : Cfg) (T : CallSem) (n : Nat) : Nat → CallSem
  | 0 => fun _ _ _ => none
  | d + 1 => fun f args objs => match cfg.ext f with
      | some g => g args objs
      | none => match P.funcs[f]? with
        | some fn => match fn.body with
          | some c => bodyA cfg T (runI P cfg T n d) n f fn c args objs
          | none => none
        | none => none

def runK {α : Type} (P : Program) (cfg : Cfg) (T : CallSem) (n : Nat) : Nat → CallK α
  | 0 => fun _ _ _ _ => none
  | d + 1 => fun f args objs k => match cfg.ext f with
      | some g => qb (g args objs) fun r => k r.1 r.2.1 r.2.2
      | none => match P.funcs[f]? with
        | some fn => match fn.body with
          | some c => bodyK cfg T (runI P cfg T n d) (runK P cfg T n d) n f fn c args objs k
          | none => none
        | none => none

/-- The loop whose first region has this number. -/
def findLoop (r : Nat) : Code → Option Code
  | .loop b => bif Nat.beq (firstRegion b) r then some b else findLoop r b
  | .seq a b => match findLoop r a with
    | some x => some x
    | none => findLoop r b
  | .cond _ a b => match findLoop r a with
    | some x => some x
    | none => findLoop r b
  | .block _ b => findLoop r b
  | _ => none

def loopBody (P : Program) (f : FuncId) (r : Nat) : Option (Nat × Code) :=
  match P.funcs[f]? with
  | some fn => match fn.body with
    | some c => match findLoop r c with
      | some b => some (fn.ntmps, b)
      | none => none
    | none => none
  | none => none

/-- A loop, from a state on. -/
def lp (P : Program) (cfg : Cfg) (T : CallSem) (n d f r na q : Nat) (s : St) : Option (Ex × St) :=
  match loopBody P f r with
  | some b => loopA na (aexec cfg T (runI P cfg T n d) f b.1 na n b.2) (cfg.lh f r).head (cfg.lh f r).out q s
  | none => none

/-- The same, as plain data. -/
def lpT (P : Program) (cfg : Cfg) (T : CallSem) (n d f r na q : Nat) (s : St) : Option (LoopTy (cfg.lh f r)) := loopT (cfg.lh f r) (lp P cfg T n d f r na q s)

/-- One round of it. -/
def roundK (P : Program) (cfg : Cfg) (T : CallSem) (n d f r na : Nat) (s : St) : Option (Ex × St) :=
  match loopBody P f r with
  | some b => aexecK cfg T (runI P cfg T n d) (runK P cfg T n d) f b.1 na n b.2 s.fr s.h fun e fr h => match e with
    | .nrm => (clean na (cfg.lh f r).head ⟨fr, h⟩).bind fun s => some (.nrm, s)
    | e => (clean na (cfg.lh f r).out ⟨fr, h⟩).bind fun s => some (e, s)
  | none => none

/-- One function, over whatever the others answer. -/
def resid (P : Program) (cfg : Cfg) (T : CallSem) (n : Nat) (f : FuncId) (args : List V) (objs : List Obj) : Option (V × List Obj × List Obj) :=
  runK P cfg T n 6 f args objs fun v os ns => some (v, os, ns)

/-- The same, of a function that is handed nothing: what it hands back, frozen, as plain data. -/
def residT (P : Program) (cfg : Cfg) (T : CallSem) (n : Nat) (f : FuncId) (args : List V) (sh : Sh) : Option (ShTy sh) :=
  runK P cfg T n 6 f args [] fun v _ ns => (frzBack (hpOf (.ret 0) 0 ns) v).bind (dec sh)

/-- The same, of a function that is handed local memory. -/
def residH (P : Program) (cfg : Cfg) (T : CallSem) (n : Nat) (f : FuncId) (args : List V) (objs : List Obj) (sh : Sh) : Option (ShTy sh × ObTys objs) :=
  runK P cfg T n 6 f args objs fun v os ns => bif isNil ns then (dec sh v).bind fun x => (decObs objs os).bind fun y => some (x, y) else none

end Go.Vm

namespace Go.Vm
set_option linter.unusedVariables false
set_option linter.unusedSimpArgs false

/-- A frozen cell: M: the blocks that may be written. -/
def CellW (w : World) (M : Nat → Prop) : Nat → Value → F → Prop
  | _, v, .sc u => v = u ∧ scal u = true
  | _, v, .err => ∃ T x, v = .iface T x
  | 0, _, .sl _ _ _ => False
  | 0, _, .ep _ _ _ => False
  | n + 1, v, .sl t k l => ∃ A c, v = .slice A l.length c ∧ l.length ≤ c ∧ (t = true → c = l.length) ∧
      ∀ i x, l[i]? = some x → ∃ b o, A = some ⟨b, o, none⟩ ∧ ¬ M b ∧ b < w.heap.size ∧
        ∀ j f, (cellsOf k x)[j]? = some f → ∃ u, w.cell? ⟨b, o + i * szOf k + j, none⟩ = some u ∧ CellW w M n u f
  | n + 1, v, .ep k x off => ∃ b o, v = .pointer (some ⟨b, o + off, none⟩) ∧ ¬ M b ∧ b < w.heap.size ∧
        ∀ j f, (cellsOf k x)[j]? = some f → ∃ u, w.cell? ⟨b, o + j, none⟩ = some u ∧ CellW w M n u f

/-- An element, from an address on. -/
def ElemW (w : World) (M : Nat → Prop) (n : Nat) (b o : Nat) (k : Kind) (x : El k) : Prop :=
  ¬ M b ∧ b < w.heap.size ∧ ∀ j f, (cellsOf k x)[j]? = some f → ∃ u, w.cell? ⟨b, o + j, none⟩ = some u ∧ CellW w M n u f

theorem CellW.succ {w : World} {M : Nat → Prop} : ∀ {n : Nat} {v : Value} {f : F}, CellW w M n v f → CellW w M (n + 1) v f
  | 0, v, .sc u, h => h
  | 0, v, .err, h => h
  | n + 1, v, .sc u, h => h
  | n + 1, v, .err, h => h
  | n + 1, v, .sl t k l, ⟨A, c, h1, h2, h3, h4⟩ => ⟨A, c, h1, h2, h3, fun i x hx => by
      obtain ⟨b, o, ha, hm, hb, hc⟩ := h4 i x hx
      exact ⟨b, o, ha, hm, hb, fun j f hf => by obtain ⟨u, hu, hr⟩ := hc j f hf; exact ⟨u, hu, CellW.succ hr⟩⟩⟩
  | n + 1, v, .ep k x off, ⟨b, o, h1, hm, hb, hc⟩ => ⟨b, o, h1, hm, hb, fun j f hf => by obtain ⟨u, hu, hr⟩ := hc j f hf; exact ⟨u, hu, CellW.succ hr⟩⟩

theorem CellW.le {w : World} {M : Nat → Prop} {n m : Nat} {v : Value} {f : F} (h : CellW w M n v f) (hm : n ≤ m) : CellW w M m v f := by
  induction hm with
  | refl => exact h
  | step _ ih => exact ih.succ

/-- Memory that may not be written is as it was, and still may not be. -/
structure Keeps (w : World) (M : Nat → Prop) (w' : World) (M' : Nat → Prop) : Prop where
  size : w.heap.size ≤ w'.heap.size
  same : ∀ b, b < w.heap.size → ¬ M b → ¬ M' b ∧ w'.heap[b]? = w.heap[b]?

theorem cell_same {w w' : World} {b o : Nat} (h : w'.heap[b]? = w.heap[b]?) : w'.cell? ⟨b, o, none⟩ = w.cell? ⟨b, o, none⟩ := by
  unfold World.cell?; simp only [h]

theorem CellW.keeps {w w' : World} {M M' : Nat → Prop} (hk : Keeps w M w' M') : ∀ {n : Nat} {v : Value} {f : F}, CellW w M n v f → CellW w' M' n v f
  | 0, v, .sc u, h => h
  | 0, v, .err, h => h
  | n + 1, v, .sc u, h => h
  | n + 1, v, .err, h => h
  | n + 1, v, .sl t k l, ⟨A, c, h1, h2, h3, h4⟩ => ⟨A, c, h1, h2, h3, fun i x hx => by
      obtain ⟨b, o, ha, hm, hb, hc⟩ := h4 i x hx
      have hs := hk.same b hb hm
      exact ⟨b, o, ha, hs.1, Nat.lt_of_lt_of_le hb hk.size, fun j f hf => by
        obtain ⟨u, hu, hr⟩ := hc j f hf
        exact ⟨u, (cell_same hs.2).trans hu, CellW.keeps hk hr⟩⟩⟩
  | n + 1, v, .ep k x off, ⟨b, o, h1, hm, hb, hc⟩ => ⟨b, o, h1, (hk.same b hb hm).1, Nat.lt_of_lt_of_le hb hk.size, fun j f hf => by
      obtain ⟨u, hu, hr⟩ := hc j f hf
      exact ⟨u, (cell_same (hk.same b hb hm).2).trans hu, CellW.keeps hk hr⟩⟩

theorem CellW.one {w : World} {M : Nat → Prop} : ∀ {n : Nat} {v : Value} {f : F}, CellW w M n v f → v.oneCell' = true
  | 0, v, .sc u, ⟨h, h2⟩ => by subst h; cases v <;> first | rfl | simp [scal] at h2
  | n + 1, v, .sc u, ⟨h, h2⟩ => by subst h; cases v <;> first | rfl | simp [scal] at h2
  | 0, v, .err, ⟨_, _, h⟩ => by subst h; rfl
  | n + 1, v, .err, ⟨_, _, h⟩ => by subst h; rfl
  | n + 1, v, .sl t k l, ⟨A, c, h1, _⟩ => by subst h1; rfl
  | n + 1, v, .ep k x off, ⟨b, o, h1, _⟩ => by subst h1; rfl

/-- A slice that is told to be tight may be told not to be. -/
theorem CellW.loose {w : World} {M : Nat → Prop} : ∀ {n : Nat} {v : Value} {t : Bool} {k : Kind} {l : List (El k)}, CellW w M n v (.sl t k l) → CellW w M n v (.sl false k l)
  | n + 1, v, t, k, l, ⟨A, c, h1, h2, _, h4⟩ => ⟨A, c, h1, h2, fun h => by simp at h, h4⟩

/-- Where objects lie: block and capacity (of a row). -/
abbrev Loc := Id → Option (Nat × Nat)

mutual
/-- A cell. -/
def CW (w : World) (M : Nat → Prop) (h : Hp) (loc : Loc) : Value → C → Prop
  | v, .f x => ∃ n, CellW w M n v x
  | v, .bx id off => (∃ cs, h id = some (.box cs)) ∧ ∃ b c, loc id = some (b, c) ∧ v = .pointer (some ⟨b, off, none⟩)
  | v, .row id k => (∃ A n c, v = .slice A n c) ∧ (h id).isSome = true ∧ ∀ wr k' l, h id = some (.row wr k' l) → k' = k ∧
      (∀ b c, loc id = some (b, c) → v = .slice (some ⟨b, 0, none⟩) l.length c) ∧ (loc id = none → ∃ n, CellW w M n v (.sl true k' l))
  | v, .re id k i off => (h id).isSome = true ∧ (∀ wr k' l, h id = some (.row wr k' l) → k' = k) ∧ ∃ b c, loc id = some (b, c) ∧ v = .pointer (some ⟨b, i * szOf k + off, none⟩)
  | v, .fn f caps => ∃ us : List Value, v = .func (.func f) #[] us.toArray ∧ CWs w M h loc us caps
  | _, .hole => True
  | v, .und => v = undef
def CWs (w : World) (M : Nat → Prop) (h : Hp) (loc : Loc) : List Value → List C → Prop
  | [], [] => True
  | v :: vs, c :: cs => CW w M h loc v c ∧ CWs w M h loc vs cs
  | _, _ => False
end

mutual
def VW (w : World) (M : Nat → Prop) (h : Hp) (loc : Loc) : Value → V → Prop
  | v, .c x => CW w M h loc v x
  | v, .agg cs => ∃ us : List Value, v = .agg us.toArray ∧ CWs w M h loc us cs
  | v, .tup vs => ∃ us : List Value, v = .tuple us.toArray ∧ VWs w M h loc us vs
def VWs (w : World) (M : Nat → Prop) (h : Hp) (loc : Loc) : List Value → List V → Prop
  | [], [] => True
  | v :: vs, c :: cs => VW w M h loc v c ∧ VWs w M h loc vs cs
  | _, _ => False
end

def Obj.live : Obj → Bool
  | .dead => false
  | _ => true

/-- The blocks that may be written: what the caller keeps to itself, and the objects'. -/
def Mut (U : Nat → Prop) (h : Hp) (loc : Loc) (b : Nat) : Prop :=
  U b ∨ ∃ id o c, h id = some o ∧ o.live = true ∧ loc id = some (b, c)

/-- An object. -/
def OW (w : World) (M : Nat → Prop) (h : Hp) (loc : Loc) (id : Id) : Obj → Prop
  | .box cs => ∃ b c us T, loc id = some (b, c) ∧ w.heap[b]? = some (.cells us T (0, 0)) ∧ CWs w M h loc us.toList cs
  | .row wr k l => (loc id = none → wr = true → l = []) ∧ ∀ b c, loc id = some (b, c) → ∃ us T, w.heap[b]? = some (.cells us T (0, 0)) ∧ us.size = c * szOf k ∧ l.length ≤ c ∧
      ∀ i x j f, l[i]? = some x → (cellsOf k x)[j]? = some f → ∃ u n, us[i * szOf k + j]? = some u ∧ CellW w M n u f
  | .dead => True

/-- What is told of memory that nobody writes: which blocks, and what. -/
structure Gl where
  bl : Nat → Prop
  ok : World → Prop
  dep : ∀ w w', (∀ b, bl b → w'.heap[b]? = w.heap[b]?) → ok w → ok w'

/-- Nothing is told. -/
def Gl.none : Gl := ⟨fun _ => False, fun _ => True, fun _ _ _ _ => trivial⟩

/-- It holds; and the blocks are kept: nobody writes them, or the caller keeps them to itself. -/
def Gl.In (G : Gl) (U : Nat → Prop) (h : Hp) (loc : Loc) (w : World) : Prop := G.ok w ∧ ∀ b, G.bl b → b < w.heap.size ∧ (U b ∨ ¬ Mut U h loc b)

/-- The table of objects stands for what lies in memory. -/
structure HW (G : Gl) (U : Nat → Prop) (h : Hp) (loc : Loc) (w : World) : Prop where
  obj : ∀ id o, h id = some o → OW w (Mut U h loc) h loc id o
  inj : ∀ id id' o o' b c c', h id = some o → o.live = true → h id' = some o' → o'.live = true → loc id = some (b, c) → loc id' = some (b, c') → id = id'
  sep : ∀ id o b c, h id = some o → o.live = true → loc id = some (b, c) → ¬ U b ∧ b < w.heap.size
  low : ∀ b, U b → b < w.heap.size
  gl : G.In U h loc w

/-- What may become of an object. -/
def Turns (loc : Loc) (id : Id) : Obj → Obj → Prop
  | .box _, .box _ => True
  | .row wr k l, .row wr' k' l' => wr' = wr ∧ k' = k ∧ l'.length = l.length ∧ (loc id = none → Obj.row wr' k' l' = Obj.row wr k l)
  | .row _ _ _, .dead => True
  | .dead, .dead => True
  | _, _ => False

/-- From one state of memory to a later one. -/
structure Ext (U : Nat → Prop) (h : Hp) (loc : Loc) (w : World) (h' : Hp) (loc' : Loc) (w' : World) : Prop where
  os : w'.os = w.os
  tape : w'.tape = w.tape
  output : w'.output = w.output
  keeps : Keeps w (Mut U h loc) w' (Mut U h' loc')
  lc : ∀ id o, h id = some o → loc' id = loc id
  ent : ∀ id o, h id = some o → ∃ o', h' id = some o' ∧ Turns loc id o o'
  old : ∀ b, b < w.heap.size → U b → w'.heap[b]? = w.heap[b]?

theorem Turns.refl (loc : Loc) (id : Id) (o : Obj) : Turns loc id o o := by
  cases o <;> simp [Turns]

theorem Turns.dead {loc : Loc} {id : Id} {o o' : Obj} (h : Turns loc id o o') (hd : o.live = false) : o' = .dead := by
  cases o <;> simp [Obj.live] at hd
  cases o' <;> simp [Turns] at h ⊢

theorem Turns.live {loc : Loc} {id : Id} {o o' : Obj} (h : Turns loc id o o') (hd : o'.live = true) : o.live = true := by
  cases o <;> simp [Obj.live]
  cases o' <;> simp [Turns, Obj.live] at h hd

theorem Turns.trans {loc loc' : Loc} {id : Id} {a b c : Obj} (h : Turns loc id a b) (h' : Turns loc' id b c) (hl : b.live = true → loc' id = loc id) : Turns loc id a c := by
  cases c with
  | dead => cases b <;> simp [Turns] at h' <;> cases a <;> simp [Turns] at h ⊢
  | box cs => cases b <;> simp [Turns] at h' <;> cases a <;> simp [Turns] at h ⊢
  | row wr k l =>
    cases b <;> simp [Turns] at h'
    cases a <;> simp [Turns] at h
    obtain ⟨rfl, rfl, h1, h2⟩ := h
    obtain ⟨rfl, rfl, h3, h4⟩ := h'
    refine ⟨rfl, rfl, h3.trans h1, fun hn => ?_⟩
    have := hl rfl
    have e1 := h2 hn
    have e2 := h4 (this.trans hn)
    simp at e1 e2 ⊢
    rw [e2, e1]

theorem Ext.refl (U : Nat → Prop) (h : Hp) (loc : Loc) (w : World) : Ext U h loc w h loc w :=
  ⟨rfl, rfl, rfl, ⟨Nat.le_refl _, fun _ _ hm => ⟨hm, rfl⟩⟩, fun _ _ _ => rfl, fun id o ho => ⟨o, ho, Turns.refl _ _ _⟩, fun _ _ _ => rfl⟩

theorem Ext.trans {U : Nat → Prop} {h h1 h2 : Hp} {loc loc1 loc2 : Loc} {w w1 w2 : World} (a : Ext U h loc w h1 loc1 w1) (b : Ext U h1 loc1 w1 h2 loc2 w2) : Ext U h loc w h2 loc2 w2 := by
  refine ⟨b.os.trans a.os, b.tape.trans a.tape, b.output.trans a.output, ⟨Nat.le_trans a.keeps.size b.keeps.size, fun k hk hm => ?_⟩, ?_, ?_, fun k hk hu => ?_⟩
  · have h1 := a.keeps.same k hk hm
    have h2 := b.keeps.same k (Nat.lt_of_lt_of_le hk a.keeps.size) h1.1
    exact ⟨h2.1, h2.2.trans h1.2⟩
  · intro id o ho
    obtain ⟨o1, ho1, t1⟩ := a.ent id o ho
    rw [b.lc id o1 ho1, a.lc id o ho]
  · intro id o ho
    obtain ⟨o1, ho1, t1⟩ := a.ent id o ho
    obtain ⟨o2, ho2, t2⟩ := b.ent id o1 ho1
    exact ⟨o2, ho2, t1.trans t2 (fun hl => a.lc id o ho)⟩
  · rw [b.old k (Nat.lt_of_lt_of_le hk a.keeps.size) hu, a.old k hk hu]

mutual
theorem CW.ext {U : Nat → Prop} {h h' : Hp} {loc loc' : Loc} {w w' : World} (e : Ext U h loc w h' loc' w') : ∀ (c : C) {v : Value}, CW w (Mut U h loc) h loc v c → CW w' (Mut U h' loc') h' loc' v c
  | .f x, v, hc => by
    unfold CW at hc ⊢
    obtain ⟨n, hn⟩ := hc
    exact ⟨n, hn.keeps e.keeps⟩
  | .bx id off, v, hc => by
    unfold CW at hc ⊢
    obtain ⟨⟨ds, ho⟩, b, c, hb, hv⟩ := hc
    obtain ⟨o', ho', ht⟩ := e.ent id _ ho
    cases o' with
    | box cs => exact ⟨⟨cs, ho'⟩, b, c, by rw [e.lc id _ ho]; exact hb, hv⟩
    | row => simp [Turns] at ht
    | dead => simp [Turns] at ht
  | .row id k, v, hc => by
    unfold CW at hc ⊢
    obtain ⟨hsh, h1, h2⟩ := hc
    obtain ⟨o, ho⟩ := Option.isSome_iff_exists.1 h1
    obtain ⟨o', ho', ht⟩ := e.ent id o ho
    refine ⟨hsh, by rw [ho']; rfl, fun wr k' l hcs => ?_⟩
    rw [ho'] at hcs
    obtain rfl := Option.some.inj hcs
    cases o with
    | box ds => simp [Turns] at ht
    | dead => simp [Turns] at ht
    | row wr0 k0 l0 =>
      obtain ⟨rfl, rfl, hl, hn⟩ := ht
      obtain ⟨rfl, h3, h4⟩ := h2 _ _ _ ho
      have hloc := e.lc id _ ho
      refine ⟨rfl, fun b c hb => ?_, fun hb => ?_⟩
      · rw [hloc] at hb; rw [hl]; exact h3 b c hb
      · rw [hloc] at hb
        have := hn hb
        simp at this
        subst this
        obtain ⟨n, hn⟩ := h4 hb
        exact ⟨n, hn.keeps e.keeps⟩
  | .re id k i off, v, hc => by
    unfold CW at hc ⊢
    obtain ⟨h1, h2, b, c, hb, hv⟩ := hc
    obtain ⟨o, ho⟩ := Option.isSome_iff_exists.1 h1
    obtain ⟨o', ho', ht⟩ := e.ent id o ho
    refine ⟨by rw [ho']; rfl, fun wr k' l hcs => ?_, b, c, by rw [e.lc id _ ho]; exact hb, hv⟩
    rw [ho'] at hcs
    obtain rfl := Option.some.inj hcs
    cases o with
    | box ds => simp [Turns] at ht
    | dead => simp [Turns] at ht
    | row wr0 k0 l0 =>
      obtain ⟨rfl, rfl, hl, hn⟩ := ht
      exact h2 _ _ _ ho
  | .fn f caps, v, hc => by
    unfold CW at hc ⊢
    obtain ⟨us, hv, hs⟩ := hc
    exact ⟨us, hv, CWs.ext e caps hs⟩
  | .hole, v, hc => by unfold CW; trivial
  | .und, v, hc => by unfold CW at hc ⊢; exact hc
theorem CWs.ext {U : Nat → Prop} {h h' : Hp} {loc loc' : Loc} {w w' : World} (e : Ext U h loc w h' loc' w') : ∀ (cs : List C) {vs : List Value}, CWs w (Mut U h loc) h loc vs cs → CWs w' (Mut U h' loc') h' loc' vs cs
  | [], [], _ => by unfold CWs; trivial
  | [], _ :: _, hc => by unfold CWs at hc; exact hc.elim
  | c :: cs, [], hc => by unfold CWs at hc; exact hc.elim
  | c :: cs, v :: vs, hc => by unfold CWs at hc ⊢; exact ⟨CW.ext e c hc.1, CWs.ext e cs hc.2⟩
end

mutual
theorem VW.ext {U : Nat → Prop} {h h' : Hp} {loc loc' : Loc} {w w' : World} (e : Ext U h loc w h' loc' w') : ∀ (c : V) {v : Value}, VW w (Mut U h loc) h loc v c → VW w' (Mut U h' loc') h' loc' v c
  | .c x, v, hc => by unfold VW at hc ⊢; exact CW.ext e x hc
  | .agg cs, v, hc => by
    unfold VW at hc ⊢
    obtain ⟨us, hv, hs⟩ := hc
    exact ⟨us, hv, CWs.ext e cs hs⟩
  | .tup vs, v, hc => by
    unfold VW at hc ⊢
    obtain ⟨us, hv, hs⟩ := hc
    exact ⟨us, hv, VWs.ext e vs hs⟩
theorem VWs.ext {U : Nat → Prop} {h h' : Hp} {loc loc' : Loc} {w w' : World} (e : Ext U h loc w h' loc' w') : ∀ (cs : List V) {vs : List Value}, VWs w (Mut U h loc) h loc vs cs → VWs w' (Mut U h' loc') h' loc' vs cs
  | [], [], _ => by unfold VWs; trivial
  | [], _ :: _, hc => by unfold VWs at hc; exact hc.elim
  | c :: cs, [], hc => by unfold VWs at hc; exact hc.elim
  | c :: cs, v :: vs, hc => by unfold VWs at hc ⊢; exact ⟨VW.ext e c hc.1, VWs.ext e cs hc.2⟩
end

end Go.Vm

namespace Go.Vm
variable {G : Gl}
set_option linter.unusedVariables false
set_option linter.unusedSimpArgs false

theorem Id.beq_true {a b : Id} : Id.beq a b = true ↔ a = b := by
  cases a <;> cases b <;> simp [Id.beq]

theorem Id.beq_self (a : Id) : Id.beq a a = true := Id.beq_true.2 rfl

theorem Id.beq_ne {a b : Id} (h : a ≠ b) : Id.beq a b = false := by
  cases hb : Id.beq a b with
  | false => rfl
  | true => exact absurd (Id.beq_true.1 hb) h

theorem hput_self (h : Hp) (i : Id) (o : Obj) : hput h i o i = some o := by simp [hput, Id.beq_self]
theorem hput_ne (h : Hp) {i j : Id} (o : Obj) (hn : j ≠ i) : hput h i o j = h j := by simp [hput, Id.beq_ne hn]

theorem upd_self (fr : Fr) (d : Nat) (v : V) : upd fr d v d = v := by simp [upd]
theorem upd_ne (fr : Fr) {d t : Nat} (v : V) (h : t ≠ d) : upd fr d v t = fr t := by
  have : Nat.beq t d = false := by cases hb : Nat.beq t d with | false => rfl | true => exact absurd (Nat.eq_of_beq_eq_true hb) h
  simp [upd, this]

def lput (loc : Loc) (i : Id) (p : Option (Nat × Nat)) : Loc := fun j => bif Id.beq j i then p else loc j
theorem lput_self (loc : Loc) (i : Id) (p : Option (Nat × Nat)) : lput loc i p i = p := by simp [lput, Id.beq_self]
theorem lput_ne (loc : Loc) {i j : Id} (p : Option (Nat × Nat)) (hn : j ≠ i) : lput loc i p j = loc j := by simp [lput, Id.beq_ne hn]

theorem OW.ext {U : Nat → Prop} {h h' : Hp} {loc loc' : Loc} {w w' : World} (e : Ext U h loc w h' loc' w') {id : Id} : ∀ {o : Obj}, OW w (Mut U h loc) h loc id o →
    (o.live = true → loc' id = loc id) → (∀ b c, o.live = true → loc id = some (b, c) → w'.heap[b]? = w.heap[b]?) → OW w' (Mut U h' loc') h' loc' id o
  | .box cs, ⟨b, c, us, T, hl, hb, hc⟩, h1, h2 => ⟨b, c, us, T, by rw [h1 rfl]; exact hl, by rw [h2 b c rfl hl]; exact hb, CWs.ext e cs hc⟩
  | .row wr k l, ⟨ha, hb⟩, h1, h2 => by
    refine ⟨fun hn => ha (by rw [← h1 rfl]; exact hn), fun b c hl => ?_⟩
    rw [h1 rfl] at hl
    obtain ⟨us, T, h3, h4, h5, h6⟩ := hb b c hl
    exact ⟨us, T, by rw [h2 b c rfl hl]; exact h3, h4, h5, fun i x j f hx hf => by
      obtain ⟨u, n, hu, hr⟩ := h6 i x j f hx hf
      exact ⟨u, n, hu, hr.keeps e.keeps⟩⟩
  | .dead, _, _, _ => trivial

theorem Gl.In.step {G : Gl} {U : Nat → Prop} {h h' : Hp} {loc loc' : Loc} {w w' : World} (hg : G.In U h loc w) (e : Ext U h loc w h' loc' w') : G.In U h' loc' w' := by
  refine ⟨G.dep _ _ (fun b hb => ?_) hg.1, fun b hb => ?_⟩
  · obtain ⟨hlt, hu | hm⟩ := hg.2 b hb
    · exact e.old b hlt hu
    · exact (e.keeps.same b hlt hm).2
  · obtain ⟨hlt, hu | hm⟩ := hg.2 b hb
    · exact ⟨Nat.lt_of_lt_of_le hlt e.keeps.size, .inl hu⟩
    · exact ⟨Nat.lt_of_lt_of_le hlt e.keeps.size, .inr (e.keeps.same b hlt hm).1⟩

/-- A table of objects behind a step: each object is as it was, or is told anew. -/
theorem HW.step {U : Nat → Prop} {h h' : Hp} {loc loc' : Loc} {w w' : World} (hw : HW G U h loc w) (e : Ext U h loc w h' loc' w')
    (hobj : ∀ id o, h' id = some o → (h id = some o ∧ (o.live = true → loc' id = loc id) ∧ ∀ b c, o.live = true → loc id = some (b, c) → w'.heap[b]? = w.heap[b]?) ∨ OW w' (Mut U h' loc') h' loc' id o)
    (inj : ∀ id id' o o' b c c', h' id = some o → o.live = true → h' id' = some o' → o'.live = true → loc' id = some (b, c) → loc' id' = some (b, c') → id = id')
    (sep : ∀ id o b c, h' id = some o → o.live = true → loc' id = some (b, c) → ¬ U b ∧ b < w'.heap.size) : HW G U h' loc' w' :=
  ⟨fun id o ho => (hobj id o ho).elim (fun ⟨h1, h2, h3⟩ => OW.ext e (hw.obj id o h1) h2 h3) id_, inj, sep, fun b hb => Nat.lt_of_lt_of_le (hw.low b hb) e.keeps.size, hw.gl.step e⟩
where id_ {p : Prop} (x : p) : p := x

/-- The heap is the same. -/
theorem Ext.of_heap {U : Nat → Prop} {h : Hp} {loc : Loc} {w w' : World} (hh : w'.heap = w.heap) (h1 : w'.os = w.os) (h2 : w'.tape = w.tape) (h3 : w'.output = w.output) : Ext U h loc w h loc w' :=
  ⟨h1, h2, h3, ⟨by rw [hh]; exact Nat.le_refl _, fun _ _ hm => ⟨hm, by rw [hh]⟩⟩, fun _ _ _ => rfl, fun id o ho => ⟨o, ho, Turns.refl _ _ _⟩, fun _ _ _ => by rw [hh]⟩

theorem HW.of_heap {U : Nat → Prop} {h : Hp} {loc : Loc} {w w' : World} (hw : HW G U h loc w) (hh : w'.heap = w.heap) (h1 : w'.os = w.os) (h2 : w'.tape = w.tape) (h3 : w'.output = w.output) : HW G U h loc w' :=
  hw.step (Ext.of_heap hh h1 h2 h3) (fun id o ho => .inl ⟨ho, fun _ => rfl, fun _ _ _ _ => by rw [hh]⟩) hw.inj (fun id o b c ho hl hb => by rw [hh]; exact hw.sep id o b c ho hl hb)

theorem Ext.drew (U : Nat → Prop) (h : Hp) (loc : Loc) (w : World) : Ext U h loc w h loc { w with drawn := w.drawn + 1 } := Ext.of_heap rfl rfl rfl rfl
theorem HW.drew {U : Nat → Prop} {h : Hp} {loc : Loc} {w : World} (hw : HW G U h loc w) : HW G U h loc { w with drawn := w.drawn + 1 } := hw.of_heap rfl rfl rfl rfl

/-- A new object. -/
theorem Ext.alloc {U : Nat → Prop} {h : Hp} {loc : Loc} {w : World} (hw : HW G U h loc w) {id : Id} (hn : h id = none) (o : Obj) (x : Go.Obj) (c : Nat) :
    Ext U h loc w (hput h id o) (lput loc id (some (w.heap.size, c))) (w.alloc x) := by
  refine ⟨rfl, rfl, rfl, ⟨by simp, fun b hb hm => ⟨?_, Go.RowKit.Below.heap_alloc w x b hb⟩⟩, ?_, ?_, fun b hb _ => Go.RowKit.Below.heap_alloc w x b hb⟩
  · rintro (hu | ⟨id', o', c', ho', hl, hloc⟩)
    · exact hm (.inl hu)
    · by_cases hid : id' = id
      · subst hid
        rw [lput_self] at hloc
        simp at hloc
        omega
      · rw [hput_ne _ _ hid] at ho'
        rw [lput_ne _ _ hid] at hloc
        exact hm (.inr ⟨id', o', c', ho', hl, hloc⟩)
  · intro id' o1 h1
    have hid : id' ≠ id := by rintro rfl; rw [hn] at h1; cases h1
    rw [lput_ne _ _ hid]
  · intro id' o1 h1
    have hid : id' ≠ id := by rintro rfl; rw [hn] at h1; cases h1
    exact ⟨o1, by rw [hput_ne _ _ hid]; exact h1, Turns.refl _ _ _⟩

theorem HW.alloc {U : Nat → Prop} {h : Hp} {loc : Loc} {w : World} (hw : HW G U h loc w) {id : Id} (hn : h id = none) (o : Obj) (x : Go.Obj) (c : Nat)
    (ho : OW (w.alloc x) (Mut U (hput h id o) (lput loc id (some (w.heap.size, c)))) (hput h id o) (lput loc id (some (w.heap.size, c))) id o) :
    HW G U (hput h id o) (lput loc id (some (w.heap.size, c))) (w.alloc x) := by
  refine hw.step (Ext.alloc hw hn o x c) ?_ ?_ ?_
  · intro id' o' ho'
    by_cases hid : id' = id
    · subst hid
      rw [hput_self] at ho'
      obtain rfl := Option.some.inj ho'
      exact .inr ho
    · rw [hput_ne _ _ hid] at ho'
      exact .inl ⟨ho', fun _ => lput_ne _ _ hid, fun b c hl hb => Go.RowKit.Below.heap_alloc w x b (hw.sep id' o' b c ho' hl hb).2⟩
  · intro i1 i2 o1 o2 b c1 c2 h1 l1 h2 l2 b1 b2
    by_cases e1 : i1 = id <;> by_cases e2 : i2 = id
    · rw [e1, e2]
    · subst e1
      rw [lput_self] at b1
      rw [lput_ne _ _ e2] at b2
      rw [hput_ne _ _ e2] at h2
      have := (hw.sep i2 o2 b c2 h2 l2 b2).2
      simp at b1
      omega
    · subst e2
      rw [lput_self] at b2
      rw [lput_ne _ _ e1] at b1
      rw [hput_ne _ _ e1] at h1
      have := (hw.sep i1 o1 b c1 h1 l1 b1).2
      simp at b2
      omega
    · rw [hput_ne _ _ e1] at h1
      rw [hput_ne _ _ e2] at h2
      rw [lput_ne _ _ e1] at b1
      rw [lput_ne _ _ e2] at b2
      exact hw.inj i1 i2 o1 o2 b c1 c2 h1 l1 h2 l2 b1 b2
  · intro i o' b c' ho' hl hb
    by_cases e1 : i = id
    · subst e1
      rw [lput_self] at hb
      simp at hb
      obtain ⟨rfl, rfl⟩ := hb
      refine ⟨fun hu => ?_, by simp⟩
      have := hw.low _ hu
      omega
    · rw [hput_ne _ _ e1] at ho'
      rw [lput_ne _ _ e1] at hb
      have := hw.sep i o' b c' ho' hl hb
      exact ⟨this.1, by simp; omega⟩

/-- An object whose block is written: it turns. -/
theorem Ext.turn {U : Nat → Prop} {h : Hp} {loc : Loc} {w w' : World} {id : Id} {o o' : Obj} (ho : h id = some o) (hl : o.live = true) (ht : Turns loc id o o') {b c : Nat} (hb : loc id = some (b, c))
    (hs : w'.heap.size = w.heap.size) (hsame : ∀ k, k ≠ b → w'.heap[k]? = w.heap[k]?) (hU : ¬ U b) (h1 : w'.os = w.os) (h2 : w'.tape = w.tape) (h3 : w'.output = w.output) :
    Ext U h loc w (hput h id o') loc w' := by
  refine ⟨h1, h2, h3, ⟨by omega, fun k hk hm => ?_⟩, fun _ _ _ => rfl, ?_, fun k hk hu => hsame k (fun e => hU (e ▸ hu))⟩
  · have hne : k ≠ b := by rintro rfl; exact hm (.inr ⟨id, o, c, ho, hl, hb⟩)
    refine ⟨?_, hsame k hne⟩
    rintro (hu | ⟨i, o2, c2, ho2, hl2, hb2⟩)
    · exact hm (.inl hu)
    · by_cases e : i = id
      · subst e
        rw [hb] at hb2
        simp at hb2
        exact hne hb2.1.symm
      · rw [hput_ne _ _ e] at ho2
        exact hm (.inr ⟨i, o2, c2, ho2, hl2, hb2⟩)
  · intro i o1 h4
    by_cases e : i = id
    · subst e
      rw [ho] at h4
      obtain rfl := Option.some.inj h4
      exact ⟨o', hput_self _ _ _, ht⟩
    · exact ⟨o1, by rw [hput_ne _ _ e]; exact h4, Turns.refl _ _ _⟩

theorem HW.turn {U : Nat → Prop} {h : Hp} {loc : Loc} {w w' : World} (hw : HW G U h loc w) {id : Id} {o o' : Obj} (ho : h id = some o) (hl : o.live = true) (ht : Turns loc id o o') {b c : Nat} (hb : loc id = some (b, c))
    (hs : w'.heap.size = w.heap.size) (hsame : ∀ k, k ≠ b → w'.heap[k]? = w.heap[k]?) (h1 : w'.os = w.os) (h2 : w'.tape = w.tape) (h3 : w'.output = w.output)
    (hO : OW w' (Mut U (hput h id o') loc) (hput h id o') loc id o') : HW G U (hput h id o') loc w' := by
  have hU := (hw.sep id o b c ho hl hb).1
  refine hw.step (Ext.turn ho hl ht hb hs hsame hU h1 h2 h3) ?_ ?_ ?_
  · intro i o2 h4
    by_cases e : i = id
    · subst e
      rw [hput_self] at h4
      obtain rfl := Option.some.inj h4
      exact .inr hO
    · rw [hput_ne _ _ e] at h4
      refine .inl ⟨h4, fun _ => rfl, fun b2 c2 hl2 hb2 => hsame b2 ?_⟩
      rintro rfl
      exact e (hw.inj i id o2 o b2 c2 c h4 hl2 ho hl hb2 hb)
  · intro i1 i2 o1 o2 b0 c1 c2 h5 l1 h6 l2 b1 b2
    have f : ∀ i oo, hput h id o' i = some oo → oo.live = true → ∃ o3, h i = some o3 ∧ o3.live = true := by
      intro i oo h7 h8
      by_cases e : i = id
      · subst e; exact ⟨o, ho, hl⟩
      · rw [hput_ne _ _ e] at h7; exact ⟨oo, h7, h8⟩
    obtain ⟨o3, h9, h10⟩ := f i1 o1 h5 l1
    obtain ⟨o4, h11, h12⟩ := f i2 o2 h6 l2
    exact hw.inj i1 i2 o3 o4 b0 c1 c2 h9 h10 h11 h12 b1 b2
  · intro i oo b0 c0 h7 h8 h9
    rw [hs]
    by_cases e : i = id
    · subst e
      exact hw.sep i o b0 c0 ho hl h9
    · rw [hput_ne _ _ e] at h7
      exact hw.sep i oo b0 c0 h7 h8 h9

/-- An object is gone: its block is never written again. -/
theorem Ext.kill {U : Nat → Prop} {h : Hp} {loc : Loc} {w : World} {id : Id} {wr : Bool} {kk : Kind} {ll : List (El kk)} (ho : h id = some (.row wr kk ll)) : Ext U h loc w (hput h id .dead) loc w := by
  refine ⟨rfl, rfl, rfl, ⟨Nat.le_refl _, fun k hk hm => ⟨?_, rfl⟩⟩, fun _ _ _ => rfl, ?_, fun _ _ _ => rfl⟩
  · rintro (hu | ⟨i, o2, c2, ho2, hl2, hb2⟩)
    · exact hm (.inl hu)
    · by_cases e : i = id
      · subst e
        rw [hput_self] at ho2
        obtain rfl := Option.some.inj ho2
        simp [Obj.live] at hl2
      · rw [hput_ne _ _ e] at ho2
        exact hm (.inr ⟨i, o2, c2, ho2, hl2, hb2⟩)
  · intro i o1 h4
    by_cases e : i = id
    · subst e
      rw [ho] at h4
      obtain rfl := Option.some.inj h4
      exact ⟨.dead, hput_self _ _ _, by simp [Turns]⟩
    · exact ⟨o1, by rw [hput_ne _ _ e]; exact h4, Turns.refl _ _ _⟩

theorem HW.kill {U : Nat → Prop} {h : Hp} {loc : Loc} {w : World} (hw : HW G U h loc w) {id : Id} {wr : Bool} {kk : Kind} {ll : List (El kk)} (ho : h id = some (.row wr kk ll)) : HW G U (hput h id .dead) loc w := by
  have f : ∀ i oo, hput h id .dead i = some oo → oo.live = true → i ≠ id ∧ h i = some oo := by
    intro i oo h7 h8
    by_cases e : i = id
    · subst e
      rw [hput_self] at h7
      obtain rfl := Option.some.inj h7
      simp [Obj.live] at h8
    · rw [hput_ne _ _ e] at h7; exact ⟨e, h7⟩
  refine hw.step (Ext.kill ho) ?_ ?_ ?_
  · intro i o2 h4
    by_cases e : i = id
    · subst e
      rw [hput_self] at h4
      obtain rfl := Option.some.inj h4
      exact .inr trivial
    · rw [hput_ne _ _ e] at h4
      exact .inl ⟨h4, fun _ => rfl, fun _ _ _ _ => rfl⟩
  · intro i1 i2 o1 o2 b0 c1 c2 h5 l1 h6 l2 b1 b2
    exact hw.inj i1 i2 o1 o2 b0 c1 c2 (f _ _ h5 l1).2 l1 (f _ _ h6 l2).2 l2 b1 b2
  · intro i oo b0 c0 h7 h8 h9
    exact hw.sep i oo b0 c0 (f _ _ h7 h8).2 h8 h9

end Go.Vm
