/-
  The data of the program: terms, certificates, policies, .. as plain Lean data, and how an element of a slice lies in cells.
-/
import Derived.WalkKit
namespace Go.Vm
set_option linter.unusedVariables false

structure Term where
  op : Int
  n : Int
  s : ByteArray
  kids : List Term

mutual
def Term.beq : Term → Term → Bool
  | ⟨o, n, s, k⟩, ⟨o', n', s', k'⟩ => decide (o = o') && decide (n = n') && decide (s = s') && Term.beqs k k'
def Term.beqs : List Term → List Term → Bool
  | [], [] => true
  | x :: xs, y :: ys => Term.beq x y && Term.beqs xs ys
  | _, _ => false
end

mutual
theorem Term.beq_iff : ∀ a b : Term, Term.beq a b = true ↔ a = b
  | ⟨o, n, s, k⟩, ⟨o', n', s', k'⟩ => by
    have := Term.beqs_iff k k'
    simp only [Term.beq, Bool.and_eq_true, decide_eq_true_eq, this, Term.mk.injEq]
    exact ⟨fun ⟨⟨⟨a, b⟩, c⟩, d⟩ => ⟨a, b, c, d⟩, fun ⟨a, b, c, d⟩ => ⟨⟨⟨a, b⟩, c⟩, d⟩⟩
theorem Term.beqs_iff : ∀ a b : List Term, Term.beqs a b = true ↔ a = b
  | [], [] => by simp [Term.beqs]
  | [], _ :: _ => by simp [Term.beqs]
  | _ :: _, [] => by simp [Term.beqs]
  | x :: xs, y :: ys => by
    simp only [Term.beqs, Bool.and_eq_true, Term.beq_iff x y, Term.beqs_iff xs ys, List.cons.injEq]
end

instance : DecidableEq Term := fun a b => decidable_of_iff _ (Term.beq_iff a b)

structure Policy where
  domain : ByteArray
  mode : Int
  mx : List ByteArray
  til : Int
  deriving DecidableEq

structure Cert where
  host : ByteArray
  pub : Term
  til : Int
  deriving DecidableEq

structure Client where
  step : Int
  host : ByteArray
  must : Bool
  eph : Int
  body : Int
  share : Term
  inn : Int
  out : Int
  tls : Bool
  proved : Bool
  deriving DecidableEq

structure Server where
  step : Int
  host : ByteArray
  key : Int
  eph : Int
  cert : Term
  share : Term
  inn : Int
  out : Int
  tls : Bool
  got : List Int
  deriving DecidableEq

structure Letter where
  domain : ByteArray
  body : Int
  state : Int
  tries : Int
  next : Int
  deriving DecidableEq

structure Note where
  kind : Int
  who : Int
  domain : ByteArray
  body : Int
  time : Int
  deriving DecidableEq

structure Host where
  name : ByteArray
  key : Int
  lost : Bool
  deriving DecidableEq

structure CallD where
  letter : Int
  client : Client
  good : Bool
  deriving DecidableEq

structure Talk where
  host : Int
  server : Server
  deriving DecidableEq

structure WorldD where
  time : Int
  fresh : Int
  known : List Term
  cache : List Policy
  hosts : List Host
  letters : List Letter
  book : ByteArray
  sure : Int
  calls : List CallD
  talks : List Talk
  told : List Int
  deriving DecidableEq

structure Deed where
  kind : Int
  a : Int
  s : ByteArray
  t : Term
  deriving DecidableEq

/-- What a slice's elements are. -/
inductive Kind where
  | int | byte | str | term | policy | letter | note | host | call | talk | deed | terms
  deriving DecidableEq

@[reducible] def El : Kind → Type
  | .int => Int
  | .byte => UInt8
  | .str => ByteArray
  | .term => Term
  | .policy => Policy
  | .letter => Letter
  | .note => Note
  | .host => Host
  | .call => CallD
  | .talk => Talk
  | .deed => Deed
  | .terms => List Term

/-- A frozen one-cell value: a scalar; a slice (tight: its capacity is its length); a pointer into an element; an error. -/
inductive F where
  | sc (v : Value)
  | sl (tight : Bool) (k : Kind) (l : List (El k))
  | ep (k : Kind) (x : El k) (off : Nat)
  /-- some error, not nil -/
  | err

@[reducible] def F.int (n : Int) : F := .sc (.int .i64 n)
@[reducible] def F.str (s : ByteArray) : F := .sc (.string s)
@[reducible] def F.bool (b : Bool) : F := .sc (.bool b)

def Term.cells (t : Term) : List F := [.int t.op, .int t.n, .str t.s, .sl false .term t.kids]
def Policy.cells (p : Policy) : List F := [.str p.domain, .int p.mode, .sl false .str p.mx, .int p.til]
def Cert.cells (c : Cert) : List F := [.str c.host, .int c.pub.op, .int c.pub.n, .str c.pub.s, .sl false .term c.pub.kids, .int c.til]
def Client.cells (c : Client) : List F :=
  [.int c.step, .str c.host, .bool c.must, .int c.eph, .int c.body, .int c.share.op, .int c.share.n, .str c.share.s, .sl false .term c.share.kids, .int c.inn, .int c.out, .bool c.tls, .bool c.proved]
def Server.cells (s : Server) : List F :=
  [.int s.step, .str s.host, .int s.key, .int s.eph, .int s.cert.op, .int s.cert.n, .str s.cert.s, .sl false .term s.cert.kids, .int s.share.op, .int s.share.n, .str s.share.s, .sl false .term s.share.kids,
   .int s.inn, .int s.out, .bool s.tls, .sl false .int s.got]
def Letter.cells (l : Letter) : List F := [.str l.domain, .int l.body, .int l.state, .int l.tries, .int l.next]
def Note.cells (n : Note) : List F := [.int n.kind, .int n.who, .str n.domain, .int n.body, .int n.time]
def Host.cells (h : Host) : List F := [.str h.name, .int h.key, .bool h.lost]
def CallD.cells (c : CallD) : List F :=
  [.int c.letter, .int c.client.step, .str c.client.host, .bool c.client.must, .int c.client.eph, .int c.client.body, .int c.client.share.op, .int c.client.share.n, .str c.client.share.s, .sl false .term c.client.share.kids,
   .int c.client.inn, .int c.client.out, .bool c.client.tls, .bool c.client.proved, .bool c.good]
def Talk.cells (t : Talk) : List F :=
  [.int t.host, .int t.server.step, .str t.server.host, .int t.server.key, .int t.server.eph, .int t.server.cert.op, .int t.server.cert.n, .str t.server.cert.s, .sl false .term t.server.cert.kids,
   .int t.server.share.op, .int t.server.share.n, .str t.server.share.s, .sl false .term t.server.share.kids, .int t.server.inn, .int t.server.out, .bool t.server.tls, .sl false .int t.server.got]
def WorldD.cells (w : WorldD) : List F :=
  [.int w.time, .int w.fresh, .sl false .term w.known, .sl false .policy w.cache, .sl false .host w.hosts, .sl false .letter w.letters, .str w.book, .int w.sure, .sl false .call w.calls, .sl false .talk w.talks, .sl false .int w.told]
def Deed.cells (d : Deed) : List F := [.int d.kind, .int d.a, .str d.s, .int d.t.op, .int d.t.n, .str d.t.s, .sl false .term d.t.kids]

def cellsOf : (k : Kind) → El k → List F
  | .int, n => [.int n]
  | .byte, b => [.sc (.int .u8 b.toNat)]
  | .str, s => [.str s]
  | .term, t => Term.cells t
  | .policy, p => Policy.cells p
  | .letter, l => Letter.cells l
  | .note, n => Note.cells n
  | .host, h => Host.cells h
  | .call, c => CallD.cells c
  | .talk, t => Talk.cells t
  | .deed, d => Deed.cells d
  | .terms, l => [.sl false .term l]

def szOf : Kind → Nat
  | .int => 1 | .byte => 1 | .str => 1 | .term => 4 | .policy => 4 | .letter => 5 | .note => 5 | .host => 3 | .call => 15 | .talk => 17 | .deed => 7 | .terms => 1

theorem cells_length (k : Kind) (x : El k) : (cellsOf k x).length = szOf k := by cases k <;> rfl

theorem szOf_pos (k : Kind) : 0 < szOf k := by cases k <;> decide

/-- An element out of its cells. -/
def ofCells : (k : Kind) → List F → Option (El k)
  | .int, [.sc (.int .i64 n)] => some n
  | .byte, [.sc (.int .u8 n)] => if 0 ≤ n ∧ n < 256 then some (UInt8.ofNat n.toNat) else none
  | .str, [.sc (.string s)] => some s
  | .term, [.sc (.int .i64 a), .sc (.int .i64 b), .sc (.string s), .sl _ .term l] => some (⟨a, b, s, l⟩ : Term)
  | .policy, [.sc (.string d), .sc (.int .i64 m), .sl _ .str l, .sc (.int .i64 u)] => some (⟨d, m, l, u⟩ : Policy)
  | .letter, [.sc (.string d), .sc (.int .i64 b), .sc (.int .i64 s), .sc (.int .i64 t), .sc (.int .i64 n)] => some (⟨d, b, s, t, n⟩ : Letter)
  | .note, [.sc (.int .i64 k), .sc (.int .i64 w), .sc (.string d), .sc (.int .i64 b), .sc (.int .i64 t)] => some (⟨k, w, d, b, t⟩ : Note)
  | .host, [.sc (.string n), .sc (.int .i64 k), .sc (.bool l)] => some (⟨n, k, l⟩ : Host)
  | .call, [.sc (.int .i64 l), .sc (.int .i64 st), .sc (.string h), .sc (.bool m), .sc (.int .i64 e), .sc (.int .i64 b), .sc (.int .i64 to), .sc (.int .i64 tn), .sc (.string ts), .sl _ .term tk,
      .sc (.int .i64 i), .sc (.int .i64 o), .sc (.bool tl), .sc (.bool p), .sc (.bool g)] => some (⟨l, ⟨st, h, m, e, b, ⟨to, tn, ts, tk⟩, i, o, tl, p⟩, g⟩ : CallD)
  | .talk, [.sc (.int .i64 h), .sc (.int .i64 st), .sc (.string nm), .sc (.int .i64 k), .sc (.int .i64 e), .sc (.int .i64 co), .sc (.int .i64 cn), .sc (.string cs), .sl _ .term ck,
      .sc (.int .i64 so), .sc (.int .i64 sn), .sc (.string ss), .sl _ .term sk, .sc (.int .i64 i), .sc (.int .i64 o), .sc (.bool tl), .sl _ .int g] =>
      some (⟨h, ⟨st, nm, k, e, ⟨co, cn, cs, ck⟩, ⟨so, sn, ss, sk⟩, i, o, tl, g⟩⟩ : Talk)
  | .deed, [.sc (.int .i64 k), .sc (.int .i64 a), .sc (.string s), .sc (.int .i64 to), .sc (.int .i64 tn), .sc (.string ts), .sl _ .term tk] => some (⟨k, a, s, ⟨to, tn, ts, tk⟩⟩ : Deed)
  | .terms, [.sl _ .term l] => some l
  | _, _ => none

def zeroT : Term := ⟨0, 0, ⟨#[]⟩, []⟩
def zeroClient : Client := ⟨0, ⟨#[]⟩, false, 0, 0, zeroT, 0, 0, false, false⟩
def zeroServer : Server := ⟨0, ⟨#[]⟩, 0, 0, zeroT, zeroT, 0, 0, false, []⟩

def zeroEl : (k : Kind) → El k
  | .int => (0 : Int)
  | .byte => (0 : UInt8)
  | .str => (⟨#[]⟩ : ByteArray)
  | .term => zeroT
  | .policy => (⟨⟨#[]⟩, 0, [], 0⟩ : Policy)
  | .letter => (⟨⟨#[]⟩, 0, 0, 0, 0⟩ : Letter)
  | .note => (⟨0, 0, ⟨#[]⟩, 0, 0⟩ : Note)
  | .host => (⟨⟨#[]⟩, 0, false⟩ : Host)
  | .call => (⟨0, zeroClient, false⟩ : CallD)
  | .talk => (⟨0, zeroServer⟩ : Talk)
  | .deed => (⟨0, 0, ⟨#[]⟩, zeroT⟩ : Deed)
  | .terms => ([] : List Term)

end Go.Vm
