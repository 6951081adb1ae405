/-
  The data of the program: terms, certificates, policies, .. as plain Lean data, and how an element of a slice lies in cells.
-/
import Derived.WalkKit
namespace Go.Vm
set_option linter.unusedVariables false

structure Term where
  op : Int
  n : Int
  s : ByteArray
  kids : List Term

mutual
def Term.beq : Term → Term → Bool
  | ⟨o, n, s, k⟩, ⟨o', n', s', k'⟩ => decide (o = o') && decide (n = n') && decide (s = s') && Term.beqs k k'
def Term.beqs : List Term → List Term → Bool
  | [], [] => true
  | x :: xs, y :: ys => Term.beq x y && Term.beqs xs ys
  | _, _ => false
end

mutual
theorem Term.beq_iff : ∀ a b : Term, Term.beq a b = true ↔ a = b
  | ⟨o, n, s, k⟩, ⟨o', n', s', k'⟩ => by
    have := Term.beqs_iff k k'
    simp only [Term.beq, Bool.and_eq_true, decide_eq_true_eq, this, Term.mk.injEq]
    exact ⟨fun ⟨⟨⟨a, b⟩, c⟩, d⟩ => ⟨a, b, c, d⟩, fun ⟨a, b, c, d⟩ => ⟨⟨⟨a, b⟩, c⟩, d⟩⟩
theorem Term.beqs_iff : ∀ a b : List Term, Term.beqs a b = true ↔ a = b
  | [], [] => by simp [Term.beqs]
  | [], _ :: _ => by simp [Term.beqs]
  | _ :: _, [] => by simp [Term.beqs]
  | x :: xs, y :: ys => by
    simp only [Term.beqs, Bool.and_eq_true, Term.beq_iff x y, Term.beqs_iff xs ys, List.cons.injEq]
end

instance : DecidableEq Term := fun a b => decidable_of_iff _ (Term.beq_iff a b)

structure Policy where
  domain : ByteArray
  mode : Int
  mx : List ByteArray
  til : Int
  deriving DecidableEq

structure Cert where
  host : ByteArray
  pub : Term
  til : Int
  deriving DecidableEq

structure Client where
  step : Int
  host : ByteArray
  must : Bool
  eph : Int
  body : Int
  share : Term
  inn : Int
  out : Int
  tls : Bool
  proved : Bool
  deriving DecidableEq

structure Server where
  step : Int
  host : ByteArray
  key : Int
  eph : Int
  cert : Term
  share : Term
  inn : Int
  out : Int
  tls : Bool
  got : List Int
  deriving DecidableEq

structure Letter where
  domain : ByteArray
  body : Int
  state : Int
  tries : Int
  next : Int
  deriving DecidableEq

structure Note where
  kind : Int
  who : Int
  domain : ByteArray
  body : Int
  time : Int
  deriving DecidableEq

structure Host where
  name : ByteArray
  key : Int
  lost : Bool
  deriving DecidableEq

structure CallD where
  letter : Int
  client : Client
  good : Bool
  deriving DecidableEq

structure Talk where
  host : Int
  server : Server
  deriving DecidableEq

structure WorldD where
  time : Int
  fresh : Int
  known : List Term
  cache : List Policy
  hosts : List Host
  letters : List Letter
  book : ByteArray
  sure : Int
  calls : List CallD
  talks : List Talk
  told : List Int
  deriving DecidableEq

structure Deed where
  kind : Int
  a : Int
  s : ByteArray
  t : Term
  deriving DecidableEq

/-- What a slice's elements are. -/
inductive Kind where
  | int | byte | str | term | policy | letter | note | host | call | talk | deed | terms | world
  deriving DecidableEq

@[reducible] def El : Kind → Type
  | .int => Int
  | .byte => UInt8
  | .str => ByteArray
  | .term => Term
  | .policy => Policy
  | .letter => Letter
  | .note => Note
  | .host => Host
  | .call => CallD
  | .talk => Talk
  | .deed => Deed
  | .terms => List Term
  | .world => WorldD

/-- A frozen one-cell value: a scalar; a slice (tight: its capacity is its length); a pointer into an element; an error. -/
inductive F where
  | sc (v : Value)
  | sl (tight : Bool) (k : Kind) (l : List (El k))
  | ep (k : Kind) (x : El k) (off : Nat)
  /-- some error, not nil -/
  | err

@[reducible] def F.int (n : Int) : F := .sc (.int .i64 n)
@[reducible] def F.str (s : ByteArray) : F := .sc (.string s)
@[reducible] def F.bool (b : Bool) : F := .sc (.bool b)

def Term.cells (t : Term) : List F := [.int t.op, .int t.n, .str t.s, .sl false .term t.kids]
def Policy.cells (p : Policy) : List F := [.str p.domain, .int p.mode, .sl false .str p.mx, .int p.til]
def Cert.cells (c : Cert) : List F := [.str c.host, .int c.pub.op, .int c.pub.n, .str c.pub.s, .sl false .term c.pub.kids, .int c.til]
def Client.cells (c : Client) : List F :=
  [.int c.step, .str c.host, .bool c.must, .int c.eph, .int c.body, .int c.share.op, .int c.share.n, .str c.share.s, .sl false .term c.share.kids, .int c.inn, .int c.out, .bool c.tls, .bool c.proved]
def Server.cells (s : Server) : List F :=
  [.int s.step, .str s.host, .int s.key, .int s.eph, .int s.cert.op, .int s.cert.n, .str s.cert.s, .sl false .term s.cert.kids, .int s.share.op, .int s.share.n, .str s.share.s, .sl false .term s.share.kids,
   .int s.inn, .int s.out, .bool s.tls, .sl false .int s.got]
def Letter.cells (l : Letter) : List F := [.str l.domain, .int l.body, .int l.state, .int l.tries, .int l.next]
def Note.cells (n : Note) : List F := [.int n.kind, .int n.who, .str n.domain, .int n.body, .int n.time]
def Host.cells (h : Host) : List F := [.str h.name, .int h.key, .bool h.lost]
def CallD.cells (c : CallD) : List F :=
  [.int c.letter, .int c.client.step, .str c.client.host, .bool c.client.must, .int c.client.eph, .int c.client.body, .int c.client.share.op, .int c.client.share.n, .str c.client.share.s, .sl false .term c.client.share.kids,
   .int c.client.inn, .int c.client.out, .bool c.client.tls, .bool c.client.proved, .bool c.good]
def Talk.cells (t : Talk) : List F :=
  [.int t.host, .int t.server.step, .str t.server.host, .int t.server.key, .int t.server.eph, .int t.server.cert.op, .int t.server.cert.n, .str t.server.cert.s, .sl false .term t.server.cert.kids,
   .int t.server.share.op, .int t.server.share.n, .str t.server.share.s, .sl false .term t.server.share.kids, .int t.server.inn, .int t.server.out, .bool t.server.tls, .sl false .int t.server.got]
def WorldD.cells (w : WorldD) : List F :=
  [.int w.time, .int w.fresh, .sl false .term w.known, .sl false .policy w.cache, .sl false .host w.hosts, .sl false .letter w.letters, .str w.book, .int w.sure, .sl false .call w.calls, .sl false .talk w.talks, .sl false .int w.told]
def Deed.cells (d : Deed) : List F := [.int d.kind, .int d.a, .str d.s, .int d.t.op, .int d.t.n, .str d.t.s, .sl false .term d.t.kids]

def cellsOf : (k : Kind) → El k → List F
  | .int, n => [.int n]
  | .byte, b => [.sc (.int .u8 b.toNat)]
  | .str, s => [.str s]
  | .term, t => Term.cells t
  | .policy, p => Policy.cells p
  | .letter, l => Letter.cells l
  | .note, n => Note.cells n
  | .host, h => Host.cells h
  | .call, c => CallD.cells c
  | .talk, t => Talk.cells t
  | .deed, d => Deed.cells d
  | .terms, l => [.sl false .term l]
  | .world, w => WorldD.cells w

def szOf : Kind → Nat
  | .int => 1 | .byte => 1 | .str => 1 | .term => 4 | .policy => 4 | .letter => 5 | .note => 5 | .host => 3 | .call => 15 | .talk => 17 | .deed => 7 | .terms => 1 | .world => 11

theorem cells_length (k : Kind) (x : El k) : (cellsOf k x).length = szOf k := by cases k <;> rfl

theorem szOf_pos (k : Kind) : 0 < szOf k := by cases k <;> decide

/-- An element out of its cells. -/
def ofCells : (k : Kind) → List F → Option (El k)
  | .int, [.sc (.int .i64 n)] => some n
  | .byte, [.sc (.int .u8 n)] => if 0 ≤ n ∧ n < 256 then some (UInt8.ofNat n.toNat) else none
  | .str, [.sc (.string s)] => some s
  | .term, [.sc (.int .i64 a), .sc (.int .i64 b), .sc (.string s), .sl _ .term l] => some (⟨a, b, s, l⟩ : Term)
  | .policy, [.sc (.string d), .sc (.int .i64 m), .sl _ .str l, .sc (.int .i64 u)] => some (⟨d, m, l, u⟩ : Policy)
  | .letter, [.sc (.string d), .sc (.int .i64 b), .sc (.int .i64 s), .sc (.int .i64 t), .sc (.int .i64 n)] => some (⟨d, b, s, t, n⟩ : Letter)
  | .note, [.sc (.int .i64 k), .sc (.int .i64 w), .sc (.string d), .sc (.int .i64 b), .sc (.int .i64 t)] => some (⟨k, w, d, b, t⟩ : Note)
  | .host, [.sc (.string n), .sc (.int .i64 k), .sc (.bool l)] => some (⟨n, k, l⟩ : Host)
  | .call, [.sc (.int .i64 l), .sc (.int .i64 st), .sc (.string h), .sc (.bool m), .sc (.int .i64 e), .sc (.int .i64 b), .sc (.int .i64 to), .sc (.int .i64 tn), .sc (.string ts), .sl _ .term tk,
      .sc (.int .i64 i), .sc (.int .i64 o), .sc (.bool tl), .sc (.bool p), .sc (.bool g)] => some (⟨l, ⟨st, h, m, e, b, ⟨to, tn, ts, tk⟩, i, o, tl, p⟩, g⟩ : CallD)
  | .talk, [.sc (.int .i64 h), .sc (.int .i64 st), .sc (.string nm), .sc (.int .i64 k), .sc (.int .i64 e), .sc (.int .i64 co), .sc (.int .i64 cn), .sc (.string cs), .sl _ .term ck,
      .sc (.int .i64 so), .sc (.int .i64 sn), .sc (.string ss), .sl _ .term sk, .sc (.int .i64 i), .sc (.int .i64 o), .sc (.bool tl), .sl _ .int g] =>
      some (⟨h, ⟨st, nm, k, e, ⟨co, cn, cs, ck⟩, ⟨so, sn, ss, sk⟩, i, o, tl, g⟩⟩ : Talk)
  | .deed, [.sc (.int .i64 k), .sc (.int .i64 a), .sc (.string s), .sc (.int .i64 to), .sc (.int .i64 tn), .sc (.string ts), .sl _ .term tk] => some (⟨k, a, s, ⟨to, tn, ts, tk⟩⟩ : Deed)
  | .terms, [.sl _ .term l] => some l
  | .world, [.sc (.int .i64 t), .sc (.int .i64 fr), .sl _ .term kn, .sl _ .policy ca, .sl _ .host ho, .sl _ .letter le, .sc (.string bo), .sc (.int .i64 su), .sl _ .call cl, .sl _ .talk ta, .sl _ .int to] =>
      some (⟨t, fr, kn, ca, ho, le, bo, su, cl, ta, to⟩ : WorldD)
  | _, _ => none

def zeroT : Term := ⟨0, 0, ⟨#[]⟩, []⟩
def zeroClient : Client := ⟨0, ⟨#[]⟩, false, 0, 0, zeroT, 0, 0, false, false⟩
def zeroServer : Server := ⟨0, ⟨#[]⟩, 0, 0, zeroT, zeroT, 0, 0, false, []⟩

def zeroEl : (k : Kind) → El k
  | .int => (0 : Int)
  | .byte => (0 : UInt8)
  | .str => (⟨#[]⟩ : ByteArray)
  | .term => zeroT
  | .policy => (⟨⟨#[]⟩, 0, [], 0⟩ : Policy)
  | .letter => (⟨⟨#[]⟩, 0, 0, 0, 0⟩ : Letter)
  | .note => (⟨0, 0, ⟨#[]⟩, 0, 0⟩ : Note)
  | .host => (⟨⟨#[]⟩, 0, false⟩ : Host)
  | .call => (⟨0, zeroClient, false⟩ : CallD)
  | .talk => (⟨0, zeroServer⟩ : Talk)
  | .deed => (⟨0, 0, ⟨#[]⟩, zeroT⟩ : Deed)
  | .terms => ([] : List Term)
  | .world => (⟨0, 0, [], [], [], [], ⟨#[]⟩, 0, [], [], []⟩ : WorldD)

end Go.Vm

namespace Go.Vm
set_option linter.unusedVariables false

/-- The name of an object: made here, in this slot; handed in; made by a callee, at this slot. -/
inductive Id where
  | own (s : Nat)
  | arg (j : Nat)
  | ret (s k : Nat)
  deriving DecidableEq

def Id.beq : Id → Id → Bool
  | .own a, .own b => Nat.beq a b
  | .arg a, .arg b => Nat.beq a b
  | .ret a b, .ret c d => Nat.beq a c && Nat.beq b d
  | _, _ => false

/-- One cell: a frozen value; a place in a box; a row; a place in a row's element; a closure; unknown; nothing yet. -/
inductive C where
  | f (x : F)
  | bx (id : Id) (off : Nat)
  | row (id : Id) (k : Kind)
  | re (id : Id) (k : Kind) (i off : Nat)
  | fn (f : FuncId) (caps : List C)
  | hole
  | und

inductive V where
  | c (x : C)
  | agg (cs : List C)
  | tup (vs : List V)

inductive Obj where
  | box (cs : List C)
  | row (wr : Bool) (k : Kind) (l : List (El k))
  | dead

@[reducible] def V.bool (b : Bool) : V := .c (.f (.sc (.bool b)))
@[reducible] def V.int (n : Int) : V := .c (.f (.sc (.int .i64 n)))
@[reducible] def V.u8 (n : Int) : V := .c (.f (.sc (.int .u8 n)))
@[reducible] def V.str (s : ByteArray) : V := .c (.f (.sc (.string s)))
@[reducible] def V.sl (t : Bool) (k : Kind) (l : List (El k)) : V := .c (.f (.sl t k l))
@[reducible] def V.ag (cs : List F) : V := .agg (cs.map C.f)

abbrev Fr := Nat → V
abbrev Hp := Id → Option Obj

structure St where
  fr : Fr
  h : Hp

/-- What is known of a type. -/
structure TI where
  desc : TypeDesc
  size : Nat
  bytes : Nat
  zv : Value
  zero : List C
  kind : Option Kind

/-- A row's place at a loop's head: a slot, a box's cell. -/
inductive Place where
  | slot (s : Nat)
  | cell (id : Id) (off : Nat)

/-- What is kept at a loop's head: slots, objects, rows by the place that holds them and the name that they get. -/
structure Keep where
  slots : List Nat
  objs : List Id
  rows : List (Place × Id)

/-- How a call is taken: it is handed no memory; it is handed local memory; the same, and it is run on the spot. -/
inductive Mode where
  | pure | heap | inline
  deriving DecidableEq

/-- What a call's result is taken for. -/
inductive Sh where
  | raw
  | bool | int | u8 | str
  | sl (k : Kind)
  | el (k : Kind)
  | cert | client | server | world
  | tup (l : List Sh)
  | bx (id : Id) (off : Nat)
  | row (id : Id) (k : Kind)
  /-- an error, or nil -/
  | err
  /-- a term whose kids' slice is tight -/
  | tt

inductive OSh where
  | box (l : List Sh)
  | row (wr : Bool) (k : Kind)
  /-- a box that holds one struct -/
  | recd (s : Sh)

/-- What is told of a loop: what is kept at its head; behind it; what that is taken for; by which ways it is left. -/
structure LoopH where
  head : Keep
  out : Keep
  sh : List (Nat × Sh)
  osh : List (Id × OSh)
  exits : List Nat

/-- What the machine does itself: slices.Clone at a kind. -/
inductive Nt where
  | clone (k : Kind)

structure Cfg where
  tb : TypeId → Option TI
  /-- the caller's number, the callee's -/
  hm : FuncId → FuncId → Mode
  /-- what a type's values are taken for, where a call hands them back -/
  sh : FuncId → TypeId → Sh
  /-- structs of this type may be compared -/
  eqT : TypeId → Bool
  lh : FuncId → Nat → LoopH
  /-- what a region's loose stores may write -/
  dl : FuncId → Nat → List Id
  ext : FuncId → Option (List V → List Obj → Option (V × List Obj × List Obj))
  /-- the append in this slot, to an empty tight slice, makes a row, whatever is appended -/
  ar : FuncId → Nat → Bool := fun _ _ => false
  nat : FuncId → Option Nt := fun _ => none
  /-- the slices that this function builds are rows of its own -/
  br : FuncId → Bool := fun _ => false

abbrev CallSem := FuncId → List V → List Obj → Option (V × List Obj × List Obj)

def upd (fr : Fr) (d : Nat) (v : V) : Fr := fun s => bif Nat.beq s d then v else fr s
def hput (h : Hp) (i : Id) (o : Obj) : Hp := fun j => bif Id.beq j i then some o else h j

/-! ### Values -/

def isAggD : TypeDesc → Bool
  | .struct _ | .array _ _ => true
  | _ => false

def isStr : TypeDesc → Bool
  | .struct _ => true
  | _ => false

def scal : Value → Bool
  | .bool _ | .int _ _ | .string _ | .nilIface | .iface _ _ => true
  | _ => false

/-- A constant of a type. -/
def constC (cfg : Cfg) (T : TypeId) (v : Value) : Option C :=
  match v with
  | .bool b => some (.f (.sc (.bool b)))
  | .int k n => some (.f (.sc (.int k n)))
  | .string s => some (.f (.sc (.string s)))
  | .nilIface => some (.f (.sc .nilIface))
  | .slice none 0 0 => (cfg.tb T).bind fun i => i.kind.map fun k => .f (.sl true k [])
  | .pointer none => some .hole
  | _ => none

def constV (cfg : Cfg) (T : TypeId) (v : Value) : Option V := (constC cfg T v).map .c

/-- An operand, where its type is known. -/
def evT (cfg : Cfg) (fr : Fr) (T : TypeId) : Operand → Option V
  | .tmp t => some (fr t)
  | .const v => constV cfg T v
  | .func f => some (.c (.fn f []))
  | .global _ => none

/-- An operand that is no nil slice. -/
def ev (fr : Fr) : Operand → Option V
  | .tmp t => some (fr t)
  | .const (.bool b) => some (.bool b)
  | .const (.int k n) => some (.c (.f (.sc (.int k n))))
  | .const (.string s) => some (.str s)
  | .const .nilIface => some (.c (.f (.sc .nilIface)))
  | .func f => some (.c (.fn f []))
  | _ => none

def asB : V → Option Bool
  | .c (.f (.sc (.bool b))) => some b
  | _ => none

def asI : V → Option Int
  | .c (.f (.sc (.int .i64 n))) => some n
  | _ => none

/-- A cell of which something is known. -/
def defC : C → Bool
  | .hole => false
  | .und => false
  | _ => true

def cellsV : V → Option (List C)
  | .c x => bif defC x then some [x] else none
  | .agg cs => some cs
  | .tup _ => none

def frzC : C → Option F
  | .f x => some x
  | _ => none

def lmapM {α β : Type} (f : α → Option β) : List α → Option (List β)
  | [] => some []
  | a :: l => (f a).bind fun b => (lmapM f l).bind fun r => some (b :: r)

def ne0 (y : Int) : Option Unit := if y = 0 then none else some ()
def ge0 (y : Int) : Option Unit := if y < 0 then none else some ()
def catOk (x y : ByteArray) : Option Unit := if ((x.size + y.size : Nat) : Int) > IntKind.i64.max then none else some ()

/-- Integers of one kind. -/
def binI (op : BinOp) (k : IntKind) (a b : Int) : Option F :=
  match op with
  | .add => some (.sc (.int k (k.wrap (a + b))))
  | .sub => some (.sc (.int k (k.wrap (a - b))))
  | .mul => some (.sc (.int k (k.wrap (a * b))))
  | .quo => (ne0 b).bind fun _ => some (.sc (.int k (k.wrap (a.tdiv b))))
  | .rem => (ne0 b).bind fun _ => some (.sc (.int k (a.tmod b)))
  | .and => some (.sc (.int k (k.wrap (BitVec.ofInt k.bits a &&& BitVec.ofInt k.bits b).toNat)))
  | .or => some (.sc (.int k (k.wrap (BitVec.ofInt k.bits a ||| BitVec.ofInt k.bits b).toNat)))
  | .xor => some (.sc (.int k (k.wrap (BitVec.ofInt k.bits a ^^^ BitVec.ofInt k.bits b).toNat)))
  | .eql => some (.bool (a == b))
  | .neq => some (.bool (a != b))
  | .lss => some (.bool (a < b))
  | .leq => some (.bool (a ≤ b))
  | .gtr => some (.bool (a > b))
  | .geq => some (.bool (a ≥ b))
  | _ => none

def binS (op : BinOp) (x y : ByteArray) : Option F :=
  match op with
  | .add => (catOk x y).bind fun _ => some (.str (x ++ y))
  | .eql => some (.bool (x.toList == y.toList))
  | .neq => some (.bool !(x.toList == y.toList))
  | .lss => some (.bool (Op.bytesLess x.toList y.toList))
  | .leq => some (.bool (Op.bytesLess x.toList y.toList || x.toList == y.toList))
  | .gtr => some (.bool !(Op.bytesLess x.toList y.toList || x.toList == y.toList))
  | .geq => some (.bool !(Op.bytesLess x.toList y.toList))
  | _ => none

def eqB (op : BinOp) (b : Bool) : Option F :=
  match op with
  | .eql => some (.bool b)
  | .neq => some (.bool !b)
  | _ => none

/-- A shift: the kinds may differ. -/
def shf (op : BinOp) (k : IntKind) (a b : Int) : Option F :=
  match op with
  | .shl => (ge0 b).bind fun _ => some (.sc (.int k (k.wrap (a * 2 ^ (min b.toNat k.bits)))))
  | .shr => (ge0 b).bind fun _ => some (.sc (.int k (a.fdiv (2 ^ (min b.toNat k.bits)))))
  | _ => none

def isShift : BinOp → Bool
  | .shl | .shr => true
  | _ => false

/-- Are two scalars of a type alike? -/
def scEqT : TypeDesc → C → C → Option Bool
  | .int .i64, .f (.sc (.int .i64 a)), .f (.sc (.int .i64 b)) => some (a == b)
  | .string, .f (.sc (.string a)), .f (.sc (.string b)) => some (a == b)
  | .bool, .f (.sc (.bool a)), .f (.sc (.bool b)) => some (a == b)
  | _, _, _ => none

/-- Structs, field by field. -/
def eqF (tb : TypeId → Option TI) : Nat → List Field → List C → List C → Option Bool
  | _, [], [], [] => some true
  | j, f :: fs, c :: cs, d :: ds =>
    bif f.name == "_" || !Nat.beq f.offset j then none else
      (tb f.type).bind fun i => (scEqT i.desc c d).bind fun x => (eqF tb (j + 1) fs cs ds).bind fun y => some (x && y)
  | _, _, _, _ => none

def isConst : Operand → Bool
  | .const _ => true
  | _ => false

def bin (cfg : Cfg) (op : BinOp) (T : TypeId) (cy : Bool) (x y : V) : Option V :=
  match x, y with
  | .c (.f (.sc (.int k a))), .c (.f (.sc (.int k' b))) => bif isShift op then (shf op k a b).bind fun v => some (.c (.f v)) else bif decide (k = k') then (binI op k a b).bind fun v => some (.c (.f v)) else none
  | .c (.f (.sc (.string a))), .c (.f (.sc (.string b))) => (binS op a b).bind fun v => some (.c (.f v))
  | .c (.f (.sc (.bool a))), .c (.f (.sc (.bool b))) => (cfg.tb T).bind fun i => match i.desc with
      | .bool => (eqB op (a == b)).bind fun v => some (.c (.f v))
      | _ => none
  | .c (.f .err), .c (.f (.sc .nilIface)) => (cfg.tb T).bind fun i => match i.desc with
      | .interface _ => (eqB op false).bind fun v => some (.c (.f v))
      | _ => none
  | .c (.f (.sc .nilIface)), .c (.f (.sc .nilIface)) => (cfg.tb T).bind fun i => match i.desc with
      | .interface _ => bif cy then (eqB op true).bind fun v => some (.c (.f v)) else none
      | _ => none
  | .agg cs, .agg ds => bif cfg.eqT T then (cfg.tb T).bind fun i => (match i.desc with
      | .struct fs => (eqF cfg.tb 0 fs.toList cs ds).bind fun b => (eqB op b).bind fun v => some (.c (.f v))
      | _ => none) else none
  | _, _ => none

def un (op : UnOp) (x : V) : Option V :=
  match op, x with
  | .not, .c (.f (.sc (.bool b))) => some (.bool !b)
  | .neg, .c (.f (.sc (.int k n))) => some (.c (.f (.sc (.int k (k.wrap (0 - n))))))
  | _, _ => none

/-- Part of a list. -/
def cut {α : Type} (l : List α) (off n : Nat) : List α := (l.drop off).take n

def putAt {α : Type} : List α → Nat → List α → List α
  | l, _, [] => l
  | [], _, _ => []
  | _ :: l, 0, y :: ys => y :: putAt l 0 ys
  | x :: l, n + 1, ys => x :: putAt l n ys

def valOf (agg : Bool) (cs : List C) : Option V :=
  bif agg then some (.agg cs) else match cs with | [x] => some (.c x) | _ => none

/-! ### Operations -/

def ld (cfg : Cfg) (h : Hp) (T : TypeId) (a : V) : Option V :=
  (cfg.tb T).bind fun i =>
  match a with
  | .c (.bx id off) => (h id).bind fun
      | .box cs => bif Nat.ble (off + i.size) cs.length then valOf (isAggD i.desc) (cut cs off i.size) else none
      | _ => none
  | .c (.f (.ep k x off)) => bif Nat.ble (off + i.size) (szOf k) then valOf (isAggD i.desc) ((cut (cellsOf k x) off i.size).map .f) else none
  | .c (.re id k j off) => (h id).bind fun
      | .row _ k' l => if e : k' = k then (l[j]?).bind fun x => bif Nat.ble (off + i.size) (szOf k) then valOf (isAggD i.desc) ((cut (cellsOf k (e ▸ x)) off i.size).map .f) else none else none
      | _ => none
  | _ => none

def st (cfg : Cfg) (h : Hp) (T : TypeId) (a v : V) : Option Hp :=
  (cfg.tb T).bind fun i =>
  (cellsV v).bind fun vs =>
  bif Nat.beq vs.length i.size then
    match a with
    | .c (.bx id off) => (h id).bind fun
        | .box cs => bif Nat.ble (off + i.size) cs.length && vs.all defC then some (hput h id (.box (putAt cs off vs))) else none
        | _ => none
    | .c (.re id k j off) => (h id).bind fun
        | .row true k' l => if e : k' = k then (l[j]?).bind fun x => bif Nat.ble (off + i.size) (szOf k) then
            (lmapM frzC vs).bind fun fs => (ofCells k (putAt (cellsOf k (e ▸ x)) off fs)).bind fun y => some (hput h id (.row true k' (l.set j (e ▸ y)))) else none else none
        | _ => none
    | _ => none
  else none

def fieldOf (cfg : Cfg) (T : TypeId) (j : Nat) : Option (Nat × TypeId) :=
  (cfg.tb T).bind fun i => match i.desc with
    | .struct fs => (fs[j]?).map fun f => (f.offset, f.type)
    | _ => none

def fldA (cfg : Cfg) (T : TypeId) (a : V) (j : Nat) : Option V :=
  (fieldOf cfg T j).bind fun p => (cfg.tb p.2).bind fun i => bif Nat.blt 0 i.size then
    (match a with
    | .c (.bx id off) => some (.c (.bx id (off + p.1)))
    | .c (.f (.ep k x off)) => some (.c (.f (.ep k x (off + p.1))))
    | .c (.re id k i off) => some (.c (.re id k i (off + p.1)))
    | _ => none)
  else none

def fld (cfg : Cfg) (T : TypeId) (x : V) (j : Nat) : Option V :=
  (fieldOf cfg T j).bind fun p => (cfg.tb p.2).bind fun i =>
  match x with
  | .agg cs => bif Nat.ble (p.1 + i.size) cs.length then valOf (isAggD i.desc) (cut cs p.1 i.size) else none
  | _ => none

def kindT (cfg : Cfg) (T : TypeId) : Option Kind := (cfg.tb T).bind fun i => match i.desc with | .slice _ => i.kind | _ => none

def idx {α : Type} (l : List α) (i : Int) : Option α := if 0 ≤ i then l[i.toNat]? else none

def ixA (cfg : Cfg) (h : Hp) (T : TypeId) (x i : V) : Option V :=
  (kindT cfg T).bind fun k =>
  (asI i).bind fun i =>
  match x with
  | .c (.f (.sl _ k' l)) => bif decide (k' = k) then (idx l i).bind fun y => some (.c (.f (.ep k' y 0))) else none
  | .c (.row id k') => bif decide (k' = k) then (h id).bind fun
      | .row true k2 l => bif decide (k2 = k') then (idx l i).bind fun _ => some (.c (.re id k' i.toNat 0)) else none
      | _ => none else none
  | _ => none

def byteAt (s : ByteArray) (i : Int) : Option Int := if 0 ≤ i then (s[i.toNat]?).map fun b => (b.toNat : Int) else none

def ix (cfg : Cfg) (T : TypeId) (x i : V) : Option V :=
  (cfg.tb T).bind fun t => match t.desc, x with
  | .string, .c (.f (.sc (.string s))) => (asI i).bind fun i => (byteAt s i).bind fun b => some (.u8 b)
  | _, _ => none

/-- Bounds of a cut: low, high. -/
def bnds (n : Nat) (lo hi : Option Int) : Option (Nat × Nat) :=
  let h : Int := hi.getD n
  let l : Int := lo.getD 0
  if 0 ≤ l ∧ l ≤ h ∧ h ≤ n then some (l.toNat, h.toNat) else none

def optI (fr : Fr) : Option Operand → Option (Option Int)
  | none => some none
  | some x => (ev fr x).bind fun v => (asI v).bind fun n => some (some n)

def slc (cfg : Cfg) (fr : Fr) (T : TypeId) (x : V) (lo hi mx : Option Operand) : Option V :=
  (cfg.tb T).bind fun t =>
  (optI fr lo).bind fun l => (optI fr hi).bind fun hh =>
  match t.desc, x, mx with
  | .string, .c (.f (.sc (.string s))), none => (bnds s.size l hh).bind fun p => some (.str (s.extract p.1 p.2))
  | .slice _, .c (.f (.sl _ k y)), none => bif decide (t.kind = some k) then (bnds y.length l hh).bind fun p => some (.sl false k ((y.take p.2).drop p.1)) else none
  | .slice _, .c (.f (.sl _ k y)), some (.const (.int .i64 0)) => match l, hh with | none, some 0 => bif decide (t.kind = some k) then some (.sl true k []) else none | _, _ => none
  | _, _, _ => none

def isU8 : Option TI → Bool
  | some ⟨.int .u8, _, _, _, _, _⟩ => true
  | _ => false

/-- Two words of the conversions that are met. -/
def cnv (cfg : Cfg) (src dst : TypeId) (x : V) : Option V :=
  (cfg.tb src).bind fun s => (cfg.tb dst).bind fun d =>
  match s.desc, d.desc, x with
  | .int _, .int k, .c (.f (.sc (.int _ n))) => some (.c (.f (.sc (.int k (k.wrap n)))))
  | .slice e, .string, .c (.f (.sl _ .byte l)) => bif isU8 (cfg.tb e) && decide (s.kind = some .byte) then some (.str ⟨l.toArray⟩) else none
  | _, _, _ => none

def bld (cfg : Cfg) (fr : Fr) (T : TypeId) (parts : List (Nat × Operand)) : Option V :=
  (cfg.tb T).bind fun i =>
  bif isStr i.desc then
    (parts.foldl (fun acc (p : Nat × Operand) => acc.bind fun (cs : List C) =>
      (fieldOf cfg T p.1).bind fun (o, u) => (cfg.tb u).bind fun ui => (evT cfg fr u p.2).bind fun v => (cellsV v).bind fun vs =>
        bif Nat.beq vs.length ui.size && Nat.ble (o + vs.length) cs.length then some (putAt cs o vs) else none) (some i.zero)).map .agg
  else none

/-- 'parts' in order, number by number: all are there. -/
def inOrder : Nat → List (Nat × Operand) → Bool
  | _, [] => true
  | n, p :: r => Nat.beq p.1 n && inOrder (n + 1) r

def eltT (cfg : Cfg) (T : TypeId) : Option TypeId := (cfg.tb T).bind fun i => match i.desc with | .slice e => some e | _ => none

/-- A constant struct of a type: the zero one. -/
def zeroConst (cfg : Cfg) (fr : Fr) (T : TypeId) : Operand → Option V
  | .const (.agg _) => none
  | x => evT cfg fr T x

def bldS (cfg : Cfg) (fr : Fr) (T : TypeId) (n : Nat) (parts : List (Nat × Operand)) : Option V :=
  (kindT cfg T).bind fun k => (eltT cfg T).bind fun e =>
  bif Nat.beq parts.length n && inOrder 0 parts && Nat.ble (n * szOf k) 1000 then
    (lmapM (fun p : Nat × Operand => (evT cfg fr e p.2).bind fun v => (cellsV v).bind fun cs => (lmapM frzC cs).bind (ofCells k)) parts).map fun l => .sl true k l
  else none

def slen (h : Hp) : V → Option Nat
  | .c (.f (.sc (.string s))) => some s.size
  | .c (.f (.sl _ _ l)) => some l.length
  | .c (.row id k) => (h id).bind fun
      | .row _ _ l => some l.length
      | _ => none
  | _ => none

/-- A string of a string's type, a slice of a slice's. -/
def seqT : TypeDesc → V → Bool
  | .string, .c (.f (.sc (.string _))) => true
  | .slice _, .c (.f (.sl _ _ _)) => true
  | .slice _, .c (.row _ _) => true
  | _, _ => false

/-- What is appended: the elements. -/
def items (h : Hp) (k : Kind) : V → Option (List (El k))
  | .c (.f (.sl _ k' l)) => if e : k' = k then some (e ▸ l) else none
  | .c (.row id k') => (h id).bind fun
      | .row _ k2 l => if e : k2 = k then some (e ▸ l) else none
      | _ => none
  | .c (.f (.sc (.string s))) => if e : Kind.byte = k then some (e ▸ (s.data.toList : List UInt8)) else none
  | _ => none

/-- What an operation does to local memory: nothing; one object more; a new table. -/
inductive Eff where
  | none
  | put (i : Id) (o : Obj)
  | heap (h : Hp)

def applyE (h : Hp) : Eff → Option Hp
  | .none => some h
  | .put i o => match h i with | .none => some (hput h i o) | some _ => .none
  | .heap h' => some h'

def isNil {α : Type} : List α → Bool
  | [] => true
  | _ => false

/-- How long what is appended may become. -/
def appMax : Nat := 1000000000

/-- 'append(row, xs...)': the old row is gone, the new one stands at slot d. -/
def appRow (h : Hp) (d : Nat) (k : Kind) (id : Id) (l xs : List (El k)) : Option (V × Eff) :=
  match xs with
  | [] => some (.c (.row id k), .none)
  | _ :: _ => match h (.own d) with
    | .none => bif Nat.ble (l.length + xs.length) appMax then some (.c (.row (.own d) k), .heap (hput (hput h id .dead) (.own d) (.row true k (l ++ xs)))) else none
    | some _ => none

def notRow (id : Id) : V → Bool
  | .c (.row id2 _) => !Id.beq id2 id
  | _ => true

/-- 'append(tight, xs...)': a new row. -/
def appTight (d : Nat) (k : Kind) (l xs : List (El k)) : Option (V × Eff) :=
  match xs with
  | [] => some (.sl true k l, .none)
  | _ :: _ => bif Nat.ble (l.length + xs.length) appMax then some (.c (.row (.own d) k), .put (.own d) (.row true k (l ++ xs))) else none

def app (h : Hp) (d : Nat) (k : Kind) (s x : V) : Option (V × Eff) :=
  (items h k x).bind fun xs =>
  match s with
  | .c (.f (.sl true k' l)) => if e : k' = k then appTight d k (e ▸ l) xs else none
  | .c (.row id k') => (h id).bind fun
      | .row wr k2 l => if e : k2 = k then (bif notRow id x then appRow h d k id (e ▸ l) xs else none) else none
      | _ => none
  | _ => none

/-- 'append(empty, xs...)': a row of its own. -/
def appNew (h : Hp) (d : Nat) (k : Kind) (s x : V) : Option (V × Eff) :=
  (items h k x).bind fun xs =>
  match s with
  | .c (.f (.sl true k' [])) => bif decide (k' = k) && Nat.ble xs.length appMax then some (.c (.row (.own d) k), .put (.own d) (.row true k xs)) else none
  | _ => none

/-- make([]T, n): a row of zeros. -/
def mk (cfg : Cfg) (d : Nat) (T : TypeId) (n c : V) : Option (V × Eff) :=
  (kindT cfg T).bind fun k => (asI n).bind fun n => (asI c).bind fun c =>
  bif decide (n = c) && decide (0 ≤ n) && Nat.ble n.toNat appMax then some (.c (.row (.own d) k), .put (.own d) (.row true k (List.replicate n.toNat (zeroEl k)))) else none

/-! ### What refers to objects -/

mutual
def refsC : C → List Id
  | .bx id _ => [id]
  | .row id _ => [id]
  | .re id _ _ _ => [id]
  | .fn _ caps => refsCs caps
  | _ => []
def refsCs : List C → List Id
  | [] => []
  | c :: cs => refsC c ++ refsCs cs
end

mutual
def refsV : V → List Id
  | .c x => refsC x
  | .agg cs => refsCs cs
  | .tup vs => refsVs vs
def refsVs : List V → List Id
  | [] => []
  | v :: vs => refsV v ++ refsVs vs
end

def refsO : Obj → List Id
  | .box cs => refsCs cs
  | _ => []

def memId (i : Id) : List Id → Bool
  | [] => false
  | j :: l => Id.beq j i || memId i l

def addNew (l : List Id) : List Id → List Id
  | [] => l
  | i :: r => bif memId i l then addNew l r else addNew (l ++ [i]) r

def refsAt (h : Hp) : List Id → List Id
  | [] => []
  | i :: r => (match h i with | some o => refsO o | none => []) ++ refsAt h r

def reach (h : Hp) : Nat → List Id → List Id
  | 0, l => l
  | n + 1, l => reach h n (addNew l (refsAt h l))

def allIn (l : List Id) : List Id → Bool
  | [] => true
  | i :: r => memId i l && allIn l r

def distinct : List Id → Bool
  | [] => true
  | i :: r => !memId i r && distinct r

/-! ### Names turned -/

def look (m : List (Id × Id)) (i : Id) : Option Id :=
  match m with
  | [] => none
  | (a, b) :: r => bif Id.beq a i then some b else look r i

mutual
def renC (m : List (Id × Id)) : C → C
  | .bx id off => match look m id with | some j => .bx j off | none => .hole
  | .row id k => match look m id with | some j => .row j k | none => .hole
  | .re id k i off => match look m id with | some j => .re j k i off | none => .hole
  | .fn f caps => .fn f (renCs m caps)
  | .f x => .f x
  | .hole => .hole
  | .und => .und
def renCs (m : List (Id × Id)) : List C → List C
  | [] => []
  | c :: cs => renC m c :: renCs m cs
end

mutual
def renV (m : List (Id × Id)) : V → V
  | .c x => .c (renC m x)
  | .agg cs => .agg (renCs m cs)
  | .tup vs => .tup (renVs m vs)
def renVs (m : List (Id × Id)) : List V → List V
  | [] => []
  | v :: vs => renV m v :: renVs m vs
end

def renO (m : List (Id × Id)) : Obj → Obj
  | .box cs => .box (renCs m cs)
  | o => o

def numFrom (mkId : Nat → Id) : Nat → List Id → List (Id × Id)
  | _, [] => []
  | n, i :: r => (i, mkId n) :: numFrom mkId (n + 1) r

def swap (m : List (Id × Id)) : List (Id × Id) := m.map fun p => (p.2, p.1)

/-- A table of objects, laid out: numbers from 'n' on. -/
def hpOf (mkId : Nat → Id) : Nat → List Obj → Hp
  | _, [] => fun _ => none
  | n, o :: r => fun i => bif Id.beq i (mkId n) then some o else hpOf mkId (n + 1) r i

def getAll (h : Hp) : List Id → Option (List Obj)
  | [] => some []
  | i :: r => (h i).bind fun o => (getAll h r).bind fun l => some (o :: l)

def putAll (h : Hp) : List Id → List Obj → Option Hp
  | [], [] => some h
  | i :: is, o :: os => putAll (hput h i o) is os
  | _, _ => none

def fresh (h : Hp) : List Id → Bool
  | [] => true
  | i :: r => (match h i with | none => true | some _ => false) && fresh h r

/-! ### Frozen: what a callee may be handed that keeps nothing, and what it hands back -/

/-- The kinds that a box may hold. -/
def boxKinds : List Kind := [.int, .str, .term, .policy, .letter, .note, .host, .call, .talk, .deed, .terms, .world]

/-- The one struct, text, number that a box holds. -/
def boxEl (fs : List F) : List Kind → Option ((k : Kind) × El k)
  | [] => none
  | k :: r => match ofCells k fs with
    | some x => some ⟨k, x⟩
    | none => boxEl fs r

/-- What a closure holds on to: a frozen value, a box that is frozen meanwhile. -/
def snapB (h : Hp) : C → Option C
  | .f x => some (.f x)
  | .bx id off => (h id).bind fun
      | .box cs => (lmapM frzC cs).bind fun fs => (boxEl fs boxKinds).bind fun p => some (.f (.ep p.1 p.2 off))
      | _ => none
  | _ => none

def snapC (h : Hp) : C → Option C
  | .f x => some (.f x)
  | .row id k => (h id).bind fun
      | .row _ k2 l => bif decide (k2 = k) then some (.f (.sl false k2 l)) else none
      | _ => none
  | .re id k i off => (h id).bind fun
      | .row _ k2 l => bif decide (k2 = k) then (l[i]?).bind fun x => some (.f (.ep k2 x off)) else none
      | _ => none
  | .bx id off => snapB h (.bx id off)
  | .fn f caps => (lmapM (snapB h) caps).map fun l => .fn f l
  | .und => some .und
  | _ => none

/-- A slice is handed over as one of which no more is known than its elements. -/
def loC : C → C
  | .f (.sl _ k l) => .f (.sl false k l)
  | c => c

def snapV (h : Hp) : V → Option V
  | .c x => (snapC h x).map fun c => .c (loC c)
  | .agg cs => (lmapM (snapC h) cs).map fun l => .agg (l.map loC)
  | .tup _ => none

def flatC : C → Bool
  | .f (.sc _) => true
  | _ => false

def flatV : V → Bool
  | .c x => flatC x
  | .agg cs => cs.all flatC
  | .tup vs => vs.all fun
      | .c x => flatC x
      | .agg cs => cs.all flatC
      | .tup _ => false

/-- What a callee that was handed nothing hands back: its new objects frozen. -/
def frzBack (h : Hp) : V → Option V
  | .c x => (snapC h x).map .c
  | .agg cs => (lmapM (snapC h) cs).map .agg
  | .tup vs => (lmapM (fun
      | .c x => (snapC h x).map V.c
      | .agg cs => (lmapM (snapC h) cs).map V.agg
      | .tup _ => none) vs).map .tup

/-! ### What a call hands back, taken for what it is -/

def part (v : V) (j : Nat) : Option V :=
  match v with
  | .tup vs => vs[j]?
  | _ => none

def unC : V → Option C
  | .c x => some x
  | _ => none

def fBool : C → Option Bool
  | .f (.sc (.bool b)) => some b
  | _ => none
def fInt : C → Option Int
  | .f (.sc (.int .i64 n)) => some n
  | _ => none
def fU8 : C → Option Int
  | .f (.sc (.int .u8 n)) => some n
  | _ => none
def fStr : C → Option ByteArray
  | .f (.sc (.string s)) => some s
  | _ => none
def fSl (k : Kind) : C → Option (List (El k))
  | .f (.sl _ k' l) => if e : k' = k then some (e ▸ l) else none
  | _ => none

def fErr : C → Option Bool
  | .f .err => some true
  | .f (.sc .nilIface) => some false
  | _ => none
def errC (b : Bool) : C := bif b then .f .err else .f (.sc .nilIface)

def fBx (id : Id) (off : Nat) : C → Option Unit
  | .bx id' off' => bif Id.beq id' id && Nat.beq off' off then some () else none
  | _ => none
def fRow (id : Id) (k : Kind) : C → Option Unit
  | .row id' k' => bif Id.beq id' id && decide (k' = k) then some () else none
  | _ => none

def fTup (n : Nat) : V → Option Unit
  | .tup vs => bif Nat.beq vs.length n then some () else none
  | _ => none

def asEl (k : Kind) : V → Option (El k)
  | .agg cs => (lmapM frzC cs).bind (ofCells k)
  | _ => none

def asCert : V → Option Cert
  | .agg [.f (.sc (.string h)), .f (.sc (.int .i64 a)), .f (.sc (.int .i64 b)), .f (.sc (.string s)), .f (.sl _ .term l), .f (.sc (.int .i64 u))] => some ⟨h, ⟨a, b, s, l⟩, u⟩
  | _ => none
def asClient : V → Option Client
  | .agg [.f (.sc (.int .i64 st)), .f (.sc (.string h)), .f (.sc (.bool m)), .f (.sc (.int .i64 e)), .f (.sc (.int .i64 b)), .f (.sc (.int .i64 to)), .f (.sc (.int .i64 tn)), .f (.sc (.string ts)), .f (.sl _ .term tk),
      .f (.sc (.int .i64 i)), .f (.sc (.int .i64 o)), .f (.sc (.bool tl)), .f (.sc (.bool p))] => some ⟨st, h, m, e, b, ⟨to, tn, ts, tk⟩, i, o, tl, p⟩
  | _ => none
def asServer : V → Option Server
  | .agg [.f (.sc (.int .i64 st)), .f (.sc (.string nm)), .f (.sc (.int .i64 k)), .f (.sc (.int .i64 e)), .f (.sc (.int .i64 co)), .f (.sc (.int .i64 cn)), .f (.sc (.string cs)), .f (.sl _ .term ck),
      .f (.sc (.int .i64 so)), .f (.sc (.int .i64 sn)), .f (.sc (.string ss)), .f (.sl _ .term sk), .f (.sc (.int .i64 i)), .f (.sc (.int .i64 o)), .f (.sc (.bool tl)), .f (.sl _ .int g)] =>
      some ⟨st, nm, k, e, ⟨co, cn, cs, ck⟩, ⟨so, sn, ss, sk⟩, i, o, tl, g⟩
  | _ => none
def asWorld : V → Option WorldD
  | .agg [.f (.sc (.int .i64 t)), .f (.sc (.int .i64 fr)), .f (.sl _ .term kn), .f (.sl _ .policy ca), .f (.sl _ .host ho), .f (.sl _ .letter le), .f (.sc (.string bo)), .f (.sc (.int .i64 su)),
      .f (.sl _ .call cl), .f (.sl _ .talk ta), .f (.sl _ .int to)] => some ⟨t, fr, kn, ca, ho, le, bo, su, cl, ta, to⟩
  | _ => none

def asTt : V → Option Term
  | .agg [.f (.sc (.int .i64 o)), .f (.sc (.int .i64 n)), .f (.sc (.string s)), .f (.sl true .term l)] => some ⟨o, n, s, l⟩
  | _ => none
def ttV (x : Term) : V := .agg [.f (.int x.op), .f (.int x.n), .f (.str x.s), .f (.sl true .term x.kids)]

def elV (k : Kind) (x : El k) : V := .agg ((cellsOf k x).map .f)

mutual
def cast (v : V) : Sh → Option V
  | .raw => some v
  | .bool => ((unC v).bind fBool).bind fun b => some (.bool b)
  | .int => ((unC v).bind fInt).bind fun n => some (.int n)
  | .u8 => ((unC v).bind fU8).bind fun n => some (.u8 n)
  | .str => ((unC v).bind fStr).bind fun s => some (.str s)
  | .sl k => ((unC v).bind (fSl k)).bind fun l => some (.sl false k l)
  | .el k => (asEl k v).bind fun x => some (elV k x)
  | .cert => (asCert v).bind fun x => some (.ag (Cert.cells x))
  | .client => (asClient v).bind fun x => some (.ag (Client.cells x))
  | .server => (asServer v).bind fun x => some (.ag (Server.cells x))
  | .world => (asWorld v).bind fun x => some (.ag (WorldD.cells x))
  | .tup l => (fTup l.length v).bind fun _ => (casts v 0 l).bind fun vs => some (.tup vs)
  | .bx id off => ((unC v).bind (fBx id off)).bind fun _ => some (.c (.bx id off))
  | .row id k => ((unC v).bind (fRow id k)).bind fun _ => some (.c (.row id k))
  | .err => ((unC v).bind fErr).bind fun b => some (.c (errC b))
  | .tt => (asTt v).bind fun x => some (ttV x)
def casts (v : V) (j : Nat) : List Sh → Option (List V)
  | [] => some []
  | s :: r => (part v j).bind fun x => (cast x s).bind fun y => (casts v (j + 1) r).bind fun ys => some (y :: ys)
end

/-- An object behind a call, taken for what it was. -/
def castC (o n : C) : Option C :=
  match o with
  | .f (.sc (.bool _)) => (fBool n).bind fun b => some (.f (.sc (.bool b)))
  | .f (.sc (.int .i64 _)) => (fInt n).bind fun b => some (.f (.sc (.int .i64 b)))
  | .f (.sc (.string _)) => (fStr n).bind fun b => some (.f (.sc (.string b)))
  | .f (.sl _ k _) => (fSl k n).bind fun l => some (.f (.sl false k l))
  | _ => some n

def castCs : List C → List C → Option (List C)
  | [], _ => some []
  | o :: os, ns => (ns.head?).bind fun n => (castC o n).bind fun x => (castCs os ns.tail).bind fun r => some (x :: r)

def asBox : Obj → Option (List C)
  | .box cs => some cs
  | _ => none

def asRow (wr : Bool) (k : Kind) : Obj → Option (List (El k))
  | .row w k' l => if w = wr then (if e : k' = k then some (e ▸ l) else none) else none
  | _ => none

def castO (o n : Obj) : Option Obj :=
  match o with
  | .box cs => (asBox n).bind fun ns => (castCs cs ns).bind fun r => bif Nat.beq ns.length cs.length then some (.box r) else none
  | .row w k _ => (asRow w k n).bind fun l => some (.row w k l)
  | .dead => some n

def castOs : List Obj → List Obj → Option (List Obj)
  | [], _ => some []
  | o :: os, ns => (ns.head?).bind fun n => (castO o n).bind fun x => (castOs os ns.tail).bind fun r => some (x :: r)

/-! ### Calls -/

def noRefs (vs : List V) : Bool := match refsVs vs with | [] => true | _ => false

def isFC : C → Bool
  | .f _ => true
  | _ => false

def notArg : Id → Bool
  | .arg _ => false
  | _ => true

def flatO : Obj → Bool
  | .box cs => cs.all isFC
  | _ => true

/-- New objects that are handed back are frozen. -/
def frzR (r : V × List Obj × List Obj) : Option (V × List Obj × List Obj) :=
  bif isNil r.2.2 then some r
  else bif r.2.1.all flatO && (refsV r.1).all notArg then (frzBack (hpOf (.ret 0) 0 r.2.2) r.1).map fun v => (v, r.2.1, []) else none

def frzT (T : CallSem) : CallSem := fun f args objs => (T f args objs).bind frzR

/-- A callee that is handed no memory: what it hands back, its own memory frozen. -/
def pres (T : CallSem) (f : FuncId) (as : List V) : Option V :=
  (T f as []).bind fun r => frzBack (hpOf (.ret 0) 0 r.2.2) r.1

def pcall (T : CallSem) (h : Hp) (f : FuncId) (args : List V) (sh : Sh) : Option V :=
  (lmapM (snapV h) args).bind fun as => (pres T f as).bind fun v => (cast v sh).bind fun v => bif noRefs args || flatV v then some v else none

/-- What is handed back into the caller's table. -/
def handBack (h : Hp) (d : Nat) (ids : List Id) (r : V) (os ns : List Obj) : Option (V × Eff) :=
  let m2 := swap (numFrom .arg 0 ids) ++ (List.range ns.length).map fun j => (Id.ret 0 j, Id.ret d j)
  let nids := (List.range ns.length).map (Id.ret d)
  bif fresh h nids then
    (putAll h ids (os.map (renO m2))).bind fun h1 => (putAll h1 nids (ns.map (renO m2))).bind fun h2 => some (renV m2 r, .heap h2)
  else none

/-- A callee that is handed local memory. -/
def hcall (T : CallSem) (h : Hp) (d : Nat) (f : FuncId) (args : List V) : Option (V × Eff) :=
  let ids := reach h 3 (addNew [] (refsVs args))
  let m := numFrom .arg 0 ids
  bif distinct ids then
    (getAll h ids).bind fun os => (T f (renVs m args) (os.map (renO m))).bind fun r => handBack h d ids r.1 r.2.1 r.2.2
  else none

/-- The same, and what is handed back is taken for what it was. -/
def hcallS (T : CallSem) (h : Hp) (d : Nat) (f : FuncId) (args : List V) (sh : Sh) : Option (V × Eff) :=
  let ids := reach h 3 (addNew [] (refsVs args))
  let m := numFrom .arg 0 ids
  bif distinct ids then
    (getAll h ids).bind fun os => (T f (renVs m args) (os.map (renO m))).bind fun r =>
      (cast r.1 sh).bind fun v => (castOs (os.map (renO m)) r.2.1).bind fun os' => bif Nat.beq r.2.1.length os.length && isNil r.2.2 then handBack h d ids v os' [] else none
  else none

def evTs (cfg : Cfg) (fr : Fr) : List Operand → List TypeId → Option (List V)
  | [], _ => some []
  | x :: xs, T :: Ts => (evT cfg fr T x).bind fun v => (evTs cfg fr xs Ts).bind fun r => some (v :: r)
  | x :: xs, [] => none

def mnmx (mx : Bool) : List V → Option V
  | [a, b] => (asI a).bind fun x => (asI b).bind fun y => some (.int (bif mx then (if x < y then y else x) else (if y < x then y else x)))
  | _ => none

def retH (v : Option V) : Option (V × Eff) := v.map fun v => (v, .none)

def blt (cfg : Cfg) (nw : Bool) (h : Hp) (d : Nat) (b : Builtin) (args : List V) (tys : List TypeId) : Option (V × Eff) :=
  match b, args, tys with
  | .len, [x], T :: _ => (cfg.tb T).bind fun i => bif seqT i.desc x then (slen h x).map fun n => (.int n, .none) else none
  | .append, [s, x], [T, T2] => (kindT cfg T).bind fun k => (cfg.tb T2).bind fun i => bif seqT i.desc x then (bif nw then appNew h d k s x else app h d k s x) else none
  | .min, l, _ => retH (mnmx false l)
  | .max, l, _ => retH (mnmx true l)
  | _, _, _ => none

def slV : V → Bool
  | .c (.f (.sl _ _ _)) => true
  | .c (.row _ _) => true
  | _ => false

/-- A function that the machine does itself. -/
def natV (h : Hp) (d : Nat) (nt : Nt) (args : List V) : Option (V × Eff) :=
  match nt, args with
  | .clone k, [x] => (items h k x).bind fun l => bif slV x && Nat.ble l.length appMax then some (.c (.row (.own d) k), .put (.own d) (.row true k l)) else none
  | _, _ => none

def callV (cfg : Cfg) (T Ti : CallSem) (me : FuncId) (h : Hp) (d : Nat) (ty : TypeId) (f : V) (args : List V) : Option (V × Eff) :=
  match f with
  | .c (.fn g caps) =>
    (match cfg.nat g with
    | some nt => bif isNil caps then natV h d nt args else none
    | none => match cfg.hm me g with
      | .pure => retH (pcall T h g (args ++ caps.map .c) (cfg.sh g ty))
      | .heap => hcallS (frzT T) h d g (args ++ caps.map .c) (cfg.sh g ty)
      | .inline => hcall Ti h d g (args ++ caps.map .c))
  | _ => none

/-- A new box in slot d. -/
def nbox (d : Nat) (cs : List C) : Option (V × Eff) := some (.c (.bx (.own d) 0), .put (.own d) (.box cs))

def ptrV : V → Option V
  | .c (.bx id o) => some (.c (.bx id o))
  | .c (.re id k i o) => some (.c (.re id k i o))
  | .c (.f (.ep k x o)) => some (.c (.f (.ep k x o)))
  | _ => none

def oneC : V → Option C
  | .c y => some y
  | _ => none

/-- A slice that was built, as a row. -/
def rowOf (b : Bool) (dst : Option Nat) (v : V) : Option (V × Eff) :=
  bif b then (match dst, v with
    | some d, .c (.f (.sl true k l)) => some (.c (.row (.own d) k), .put (.own d) (.row true k l))
    | _, _ => none)
  else some (v, .none)

/-- One operation. -/
def aop (cfg : Cfg) (T Ti : CallSem) (me : FuncId) (fr : Fr) (h : Hp) (dst : Option Nat) (ty : TypeId) : Op → Option (V × Eff)
  | .move x => retH (evT cfg fr ty x)
  | .assign x => retH (evT cfg fr ty x)
  | .pick c a b => (ev fr c).bind fun c => (asB c).bind fun c => bif c then retH (evT cfg fr ty a) else retH (evT cfg fr ty b)
  | .alloc t => dst.bind fun d => (cfg.tb t).bind fun i => nbox d i.zero
  | .box t x => dst.bind fun d => (cfg.tb t).bind fun i => (evT cfg fr t x).bind fun v => (cellsV v).bind fun cs => bif Nat.beq cs.length i.size then nbox d cs else none
  | .build t ps => retH (bld cfg fr t ps.toList)
  | .buildSlice t n ps => (bldS cfg fr t n ps.toList).bind (rowOf (cfg.br me) dst)
  | .load t a => (ev fr a).bind fun a => retH (ld cfg h t a)
  | .store t a x => (ev fr a).bind fun a => (evT cfg fr t x).bind fun v => (st cfg h t a v).map fun h' => (.c .und, .heap h')
  | .nilCheck x => (ev fr x).bind fun v => retH (ptrV v)
  | .binOp op t x y _ => (ev fr x).bind fun a => (ev fr y).bind fun b => retH (bin cfg op t (isConst y) a b)
  | .unOp op _ x => (ev fr x).bind fun a => retH (un op a)
  | .convert s t x => (ev fr x).bind fun a => retH (cnv cfg s t a)
  | .makeSlice t n c => dst.bind fun d => (ev fr n).bind fun n => (ev fr c).bind fun c => mk cfg d t n c
  | .makeFunc (.func f) first caps => bif first.isEmpty then (lmapM (fun x => (ev fr x).bind oneC) caps.toList).map fun cs => (.c (.fn f cs), .none) else none
  | .slice t x lo hi mx => (ev fr x).bind fun v => retH (slc cfg fr t v lo hi mx)
  | .fieldAddr t a j => (ev fr a).bind fun a => retH (fldA cfg t a j)
  | .field t x j => (ev fr x).bind fun v => retH (fld cfg t v j)
  | .indexAddr t x i => (ev fr x).bind fun x => (ev fr i).bind fun i => retH (ixA cfg h t x i)
  | .index t x i => (ev fr x).bind fun x => (ev fr i).bind fun i => retH (ix cfg t x i)
  | .extract t j => (ev fr t).bind fun v => retH (part v j)
  | .call c => dst.bind fun d => (evTs cfg fr c.args.toList c.argTypes.toList).bind fun args =>
      match c.callee with
      | .value f => (ev fr f).bind fun f => callV cfg T Ti me h d ty f args
      | .builtin b => blt cfg (cfg.ar me d) h d b args c.argTypes.toList
      | .invoke _ _ => none
  | _ => none

/-! ### Regions -/

def guardA (fr : Fr) (ops : List Oper) : Option (Nat × Bool) → Option Bool
  | none => some true
  | some (j, want) => ((ops[j]?).bind (·.dst)).bind fun t => match fr t with
      | .c (.f (.sc (.bool b))) => some (b == want)
      | .c .und => some false
      | _ => none

def putD (nt : Nat) (fr : Fr) (dst : Option Nat) (v : V) : Option Fr :=
  match dst with
  | some d => bif Nat.blt d nt then some (upd fr d v) else none
  | none => some fr

def stepO (cfg : Cfg) (T Ti : CallSem) (me nt : Nat) (ops : List Oper) (o : Oper) (s : St) : Option St :=
  (guardA s.fr ops o.guard).bind fun g =>
  bif g then (aop cfg T Ti me s.fr s.h o.dst o.type o.op).bind fun r => (applyE s.h r.2).bind fun h' => (putD nt s.fr o.dst r.1).bind fun fr' => some ⟨fr', h'⟩
  else (putD nt s.fr o.dst (.c .und)).bind fun fr' => some ⟨fr', s.h⟩

def runOps (cfg : Cfg) (T Ti : CallSem) (me nt : Nat) (ops : List Oper) : List Oper → St → Option St
  | [], s => some s
  | o :: r, s => (stepO cfg T Ti me nt ops o s).bind (runOps cfg T Ti me nt ops r)

/-! A region that draws its order: what is read is read from the table 'hr' as it was behind the last write. -/

inductive Cls where
  | pure | reads | writes | lload | lstore | lcall | lalloc
  deriving DecidableEq

def Cls.isPure : Cls → Bool | .pure => true | _ => false
/-- Carried out on the table as it is now. -/
def Cls.isW : Cls → Bool | .writes => true | .lstore => true | .lcall => true | _ => false

def clsOf (cfg : Cfg) (me : FuncId) : Op → Cls
  | .load .. | .indexAddr .. | .alloc _ | .box .. | .makeSlice .. => .reads
  | .store .. => .writes
  | .buildSlice .. => bif cfg.br me then .reads else .pure
  | .call { callee := .builtin .append, .. } => .writes
  | .call { callee := .builtin .len, .. } => .reads
  | .call { callee := .builtin _, .. } => .pure
  | .call { callee := .value (.func f), .. } => (match cfg.hm me f with | .pure => .reads | _ => .writes)
  | .call _ => .writes
  | _ => .pure

def waitsFor (o : Oper) (i : Nat) : Bool := o.after.toList.any fun e => Region.binds .any e && Nat.beq e.on i

/-- What an operation waits for, as bits; acc: the same of those ahead. -/
def maskOf (acc : List Nat) (o : Oper) : Nat :=
  o.after.toList.foldl (fun m e => bif Region.binds .any e then Nat.lor m (Nat.lor (Nat.shiftLeft 1 e.on) (acc.getD e.on 0)) else m) 0

def masksFrom (acc : List Nat) : List Oper → List Nat
  | [] => acc
  | o :: r => masksFrom (acc ++ [maskOf acc o]) r

/-- Waits for number i, maybe by way of others. -/
def waitsT (ops : List Oper) (_ : Nat) (o : Oper) (i : Nat) : Bool := Nat.testBit (maskOf (masksFrom [] ops) o) i

/-- All but the pure ones stand in an order to number i. -/
def ordered (cfg : Cfg) (me : FuncId) (ops : List Oper) (i : Nat) (o : Oper) : Bool :=
  ops.zipIdx.all fun (x, j) => Nat.beq i j || (clsOf cfg me x.op).isPure || waitsT ops 8 o j || waitsT ops 8 x i

def isAppend : Op → Bool
  | .call { callee := .builtin .append, .. } => true
  | _ => false
def isLoad : Op → Bool
  | .load .. => true
  | .indexAddr .. => true
  | _ => false
def isStore : Op → Bool
  | .store .. => true
  | _ => false

/-- A call that is handed local memory. -/
def isHC (cfg : Cfg) (me : FuncId) : Op → Bool
  | .call { callee := .value (.func f), .. } => (match cfg.nat f with | some _ => false | none => match cfg.hm me f with | .heap => true | _ => false)
  | _ => false
def isAlloc : Op → Bool
  | .alloc _ => true
  | _ => false

/-- Some operation of a sort stands in no order to number i. -/
def looseTo (p : Op → Bool) (ops : List Oper) (i : Nat) (o : Oper) : Bool :=
  ops.zipIdx.any fun (x, j) => !Nat.beq i j && p x.op && !waitsT ops 8 o j && !waitsT ops 8 x i

/-- An append that stands in no order to something else only reads (it must make a new row then). A load and a store that stand in no order are loose. -/
def clsIn (cfg : Cfg) (me : FuncId) (ops : List Oper) (i : Nat) (o : Oper) : Cls :=
  bif isAppend o.op then (bif ordered cfg me ops i o then .writes else .reads)
  else bif isLoad o.op then (bif looseTo isStore ops i o || looseTo (isHC cfg me) ops i o then .lload else .reads)
  else bif isStore o.op then (bif looseTo isLoad ops i o then .lstore else .writes)
  else bif isHC cfg me o.op then (bif looseTo isLoad ops i o || looseTo isAlloc ops i o then .lcall else .writes)
  else bif isAlloc o.op then (bif looseTo (isHC cfg me) ops i o then .lalloc else .reads)
  else clsOf cfg me o.op

structure SD where
  fr : Fr
  h : Hp
  hr : Hp

def quietE : Eff → Bool
  | .heap _ => false
  | _ => true

def addrId : V → Option Id
  | .c (.bx id _) => some id
  | .c (.re id _ _ _) => some id
  | _ => none

def stId (fr : Fr) : Op → Option Id
  | .store _ a _ => (ev fr a).bind addrId
  | _ => none

def rowIdV : V → Option Id
  | .c (.row id _) => some id
  | _ => none

def ldId (fr : Fr) : Op → Option Id
  | .load _ a => (ev fr a).bind addrId
  | .indexAddr _ x _ => (ev fr x).bind rowIdV
  | _ => none

/-- What a table tells of some objects; a table, of some objects another one. -/
def only (dl : List Id) (h : Hp) : Hp := fun i => bif memId i dl then h i else none
def overlay (dl : List Id) (a b : Hp) : Hp := fun i => bif memId i dl then a i else b i

/-- Loose loads look at none of the objects that loose stores and calls write. -/
def okD (dl : List Id) (c : Cls) (fr : Fr) (o : Oper) : Bool :=
  match c with
  | .lload => (match ldId fr o.op with | some id => !memId id dl | none => true)
  | .lstore => (match stId fr o.op with | some id => memId id dl | none => false)
  | .lalloc => (match o.dst with | some d => !memId (.own d) dl | none => true)
  | _ => true

def tabD (dl : List Id) (c : Cls) (h hr : Hp) : Hp :=
  match c with
  | .lcall => only dl h
  | c => bif c.isW then h else hr

def effD (dl : List Id) (c : Cls) (h : Hp) (e : Eff) : Eff :=
  match c with
  | .lcall => (match e with | .heap a => .heap (overlay dl a h) | e => e)
  | _ => e

def nextHr (dl : List Id) (c : Cls) (fr : Fr) (op : Op) (h' hr : Hp) : Hp :=
  match c with
  | .writes => h'
  | .lstore => (match stId fr op with
    | some id => (match h' id with | some ob => hput hr id ob | none => hr)
    | none => hr)
  | .lcall => overlay dl h' hr
  | _ => hr

def stepD (cfg : Cfg) (T Ti : CallSem) (me nt : Nat) (dl : List Id) (ops : List Oper) (c : Cls) (o : Oper) (s : SD) : Option SD :=
  (guardA s.fr ops o.guard).bind fun g =>
  bif g then
    bif okD dl c s.fr o then
      (aop cfg T Ti me s.fr (tabD dl c s.h s.hr) o.dst o.type o.op).bind fun r => bif c.isW || quietE r.2 then
        (applyE s.h (effD dl c s.h r.2)).bind fun h' => (putD nt s.fr o.dst r.1).bind fun fr' => some ⟨fr', h', nextHr dl c s.fr o.op h' s.hr⟩ else none
    else none
  else (putD nt s.fr o.dst (.c .und)).bind fun fr' => some ⟨fr', s.h, s.hr⟩

def runD (cfg : Cfg) (T Ti : CallSem) (me nt : Nat) (dl : List Id) (ops : List Oper) : Nat → List Oper → SD → Option SD
  | _, [], s => some s
  | i, o :: r, s => (stepD cfg T Ti me nt dl ops (clsIn cfg me ops i o) o s).bind (runD cfg T Ti me nt dl ops (i + 1) r)

def compat (a b : Cls) : Bool := a.isPure || b.isPure || (!a.isW && !b.isW) || (match a, b with | .lload, .lstore => true | .lstore, .lload => true | .lload, .lcall => true | .lcall, .lload => true | .lalloc, .lcall => true | .lcall, .lalloc => true | _, _ => false)

/-- Number i may come first: what doesn't wait for it is apart from it. -/
def freeAt (cfg : Cfg) (me : FuncId) (ops : Array Oper) (i : Nat) (o : Oper) : Bool :=
  ops.toList.zipIdx.all fun (x, j) => Nat.ble j i || waitsT ops.toList 8 x i ||
    (o.apart ops x && compat (clsIn cfg me ops.toList i o) (clsIn cfg me ops.toList j x))

def noSel : Op → Bool
  | .select .. => false
  | _ => true

def drawOk (cfg : Cfg) (me : FuncId) (ops : Array Oper) : Bool :=
  ops.toList.zipIdx.all fun (o, i) => noSel o.op && freeAt cfg me ops i o && o.after.toList.all fun e => !Region.binds .any e || Nat.blt e.on i

def region (cfg : Cfg) (T Ti : CallSem) (me nt : Nat) (id : Nat) (ops : Array Oper) (draw : Bool) (s : St) : Option St :=
  bif draw then
    bif drawOk cfg me ops then (runD cfg T Ti me nt (cfg.dl me id) ops.toList 0 ops.toList ⟨s.fr, s.h, s.h⟩).map fun s => ⟨s.fr, s.h⟩ else none
  else runOps cfg T Ti me nt ops.toList ops.toList s

/-! ### Code -/

inductive Ex where
  | nrm
  | ext (id : Nat)
  | ret

/-- A list of slots, laid out. -/
def frOf : List (Nat × V) → Fr
  | [] => fun _ => .c .hole
  | (s, v) :: r => fun t => bif Nat.beq t s then v else frOf r t

def hpIds : List (Id × Obj) → Hp
  | [] => fun _ => none
  | (i, o) :: r => fun j => bif Id.beq j i then some o else hpIds r j

def atPlace (s : St) : Place → Option C
  | .slot t => match s.fr t with | .c x => some x | _ => none
  | .cell id off => match s.h id with | some (.box cs) => cs[off]? | _ => none

/-- The names that are kept, old and new. -/
def keepMap (s : St) (k : Keep) : List (Id × Id) :=
  k.objs.map (fun i => (i, i)) ++ k.rows.filterMap fun (p, j) => match atPlace s p with | some (.row i _) => some (i, j) | _ => none

/-- The rows, under their new names; a tight slice is taken for a row. -/
def keepRows (s : St) (m : List (Id × Id)) : List (Place × Id) → List (Id × Obj)
  | [] => []
  | (p, j) :: r => (match atPlace s p with
      | some (.row i _) => (match s.h i with | some o => [(j, renO m o)] | none => [])
      | some (.f (.sl true k l)) => [(j, .row (isNil l) k l)]
      | _ => []) ++ keepRows s m r

/-- A tight slice's place holds the row. -/
def thawAt (j : Id) : C → C
  | .f (.sl true k _) => .row j k
  | c => c

def thawV (j : Id) : V → V
  | .c x => .c (thawAt j x)
  | v => v

def Place.beq : Place → Place → Bool
  | .slot a, .slot b => Nat.beq a b
  | .cell a i, .cell b j => Id.beq a b && Nat.beq i j
  | _, _ => false

def findRow (p : Place) : List (Place × Id) → Option Id
  | [] => none
  | (q, j) :: r => bif Place.beq q p then some j else findRow p r

def thawCs (rows : List (Place × Id)) (i : Id) : Nat → List C → List C
  | _, [] => []
  | off, c :: cs => (match findRow (.cell i off) rows with | some j => thawAt j c | none => c) :: thawCs rows i (off + 1) cs

def thawO (rows : List (Place × Id)) (i : Id) : Obj → Obj
  | .box cs => .box (thawCs rows i 0 cs)
  | o => o

def keepObjs (s : St) (m : List (Id × Id)) (rows : List (Place × Id)) : List Id → List (Id × Obj)
  | [] => []
  | i :: r => (match s.h i with | some o => [(i, thawO rows i (renO m o))] | none => []) ++ keepObjs s m rows r

def keepSlots (s : St) (m : List (Id × Id)) (rows : List (Place × Id)) : List Nat → List (Nat × V)
  | [] => []
  | t :: r => (t, match findRow (.slot t) rows with | some j => thawV j (renV m (s.fr t)) | none => renV m (s.fr t)) :: keepSlots s m rows r

/-- At a loop's head: what is not kept is forgotten, rows get their names. -/
def clean (na : Nat) (k : Keep) (s : St) : Option St :=
  let m := keepMap s k
  bif distinct (k.objs ++ k.rows.map (·.2)) && distinct (m.map (·.1)) && allIn k.objs ((List.range na).map Id.arg) then
    some ⟨frOf (keepSlots s m k.rows k.slots), hpIds (keepObjs s m k.rows k.objs ++ keepRows s m k.rows)⟩ else none

/-- The number of the first region. -/
def firstRegion : Code → Nat
  | .region id _ _ => id
  | .seq a _ => firstRegion a
  | .block _ b => firstRegion b
  | .loop b => firstRegion b
  | _ => 0

def loopA (na : Nat) (body : St → Option (Ex × St)) (k ko : Keep) : Nat → St → Option (Ex × St)
  | 0, _ => none
  | n + 1, s => (body s).bind fun r => match r.1 with
      | .nrm => (clean na k r.2).bind (loopA na body k ko n)
      | e => (clean na ko r.2).bind fun s' => some (e, s')

def castSlots (fr : Fr) : List (Nat × Sh) → Option (List (Nat × V))
  | [] => some []
  | p :: r => (cast (fr p.1) p.2).bind fun v => (castSlots fr r).bind fun l => some ((p.1, v) :: l)

def castBox (cs : List C) (j : Nat) : List Sh → Option (List C)
  | [] => some []
  | s :: r => (cs[j]?).bind fun c => (cast (.c c) s).bind fun v => (unC v).bind fun c' => (castBox cs (j + 1) r).bind fun l => some (c' :: l)

def asAggC : V → Option (List C)
  | .agg cs => some cs
  | _ => none

def castObj (o : Obj) : OSh → Option Obj
  | .box l => (asBox o).bind fun cs => (castBox cs 0 l).bind fun r => bif Nat.beq cs.length l.length then some (.box r) else none
  | .row w k => (asRow w k o).bind fun l => some (.row w k l)
  | .recd s => (asBox o).bind fun cs => (cast (.agg cs) s).bind fun v => (asAggC v).bind fun r => some (.box r)

def castObjs (h : Hp) : List (Id × OSh) → Option (List (Id × Obj))
  | [] => some []
  | p :: r => (h p.1).bind fun o => (castObj o p.2).bind fun x => (castObjs h r).bind fun l => some ((p.1, x) :: l)

def idMap (l : List (Id × OSh)) : List (Id × Id) := l.map fun p => (p.1, p.1)

/-- What stands behind a loop, taken for what it is. -/
def castSt (na : Nat) (s : St) (sh : List (Nat × Sh)) (osh : List (Id × OSh)) : Option St :=
  (castSlots s.fr sh).bind fun a => (castObjs s.h osh).bind fun b =>
    bif distinct (osh.map (·.1)) && allIn (osh.map (·.1)) ((List.range na).map Id.arg) then
      some ⟨frOf (a.map fun p => (p.1, renV (idMap osh) p.2)), hpIds (b.map fun p => (p.1, renO (idMap osh) p.2))⟩ else none

def isN : Ex → Bool
  | .nrm => true
  | _ => false

def leave (id : Nat) : Ex → Ex
  | .ext j => bif Nat.beq j id then .nrm else .ext j
  | e => e

/-- Code, with at most n rounds a loop. -/
def aexec (cfg : Cfg) (T Ti : CallSem) (me nt na n : Nat) : Code → St → Option (Ex × St)
  | .skip, s => some (.nrm, s)
  | .region id ops draw, s => (region cfg T Ti me nt id ops draw s).map fun s => (.nrm, s)
  | .seq a b, s => (aexec cfg T Ti me nt na n a s).bind fun r => bif isN r.1 then aexec cfg T Ti me nt na n b r.2 else some r
  | .cond c a b, s => (ev s.fr c).bind fun v => (asB v).bind fun t => bif t then aexec cfg T Ti me nt na n a s else aexec cfg T Ti me nt na n b s
  | .block id b, s => (aexec cfg T Ti me nt na n b s).map fun r => (leave id r.1, r.2)
  | .loop b, s =>
    let l := cfg.lh me (firstRegion b)
    (clean na l.head s).bind fun s => (loopA na (aexec cfg T Ti me nt na n b) l.head l.out n s).bind fun r => (castSt na r.2 l.sh l.osh).bind fun s' => some (r.1, s')
  | .exit id, s => some (.ext id, s)
  | .ret, s => some (.ret, s)
  | _, _ => none

/-! ### Functions -/

def frArgs : List V → Fr
  | [] => fun _ => .c .und
  | v :: r => fun t => match t with | 0 => v | t + 1 => frArgs r t

def resV (cfg : Cfg) (s : St) : ResultVar → Option V
  | .tmp t => some (s.fr t)
  | .cell t T => ld cfg s.h T (s.fr t)

def resVs (cfg : Cfg) (s : St) : List ResultVar → Option (List V)
  | [] => some []
  | r :: rs => (resV cfg s r).bind fun v => (resVs cfg s rs).bind fun vs => some (v :: vs)

def packV : List V → V
  | [v] => v
  | vs => .tup vs

def isArg : Id → Bool
  | .arg _ => true
  | _ => false

/-- What leaves a call: the result, the objects that were handed in, the new ones. -/
def finishA (h : Hp) (na : Nat) (v : V) : Option (V × List Obj × List Obj) :=
  let as := (List.range na).map Id.arg
  let ns := (reach h 3 (addNew as (refsV v))).filter fun i => !isArg i
  let m := as.map (fun i => (i, i)) ++ numFrom (.ret 0) 0 ns
  bif distinct ns then
    (getAll h as).bind fun os => (getAll h ns).bind fun os2 => some (renV m v, os.map (renO m), os2.map (renO m))
  else none

def bodyA (cfg : Cfg) (T Ti : CallSem) (n f : Nat) (fn : Func) (c : Code) (args : List V) (objs : List Obj) : Option (V × List Obj × List Obj) :=
  bif Nat.ble args.length fn.ntmps then
    (aexec cfg T Ti f fn.ntmps objs.length n c ⟨frArgs args, hpOf .arg 0 objs⟩).bind fun r => match r.1 with
      | .ext _ => none
      | _ => (resVs cfg r.2 fn.results.toList).bind fun vs => finishA r.2.h objs.length (packV vs)
  else none

def run (P : Program) (cfg : Cfg) : Nat → CallSem
  | 0 => fun _ _ _ => none
  | n + 1 => fun f args objs => match cfg.ext f with
      | some g => g args objs
      | none => match P.funcs[f]? with
        | some fn => match fn.body with
          | some c => bodyA cfg (run P cfg n) (run P cfg n) n f fn c args objs
          | none => none
        | none => none

open Classical in
/-- What a function answers, whatever the number of rounds. -/
noncomputable def rn (P : Program) (cfg : Cfg) : CallSem := fun f args objs =>
  if h : ∃ r, ∃ N, ∀ n, N ≤ n → run P cfg n f args objs = some r then some (Classical.choose h) else none

end Go.Vm
