/-
  Clients and servers that are right.
-/
import Derived.Test.YtepghohkfnmhmaaDoorVmLp
import Derived.Test.YtepghohkfnmhmaaDoorVmHost
namespace Go.Vm
set_option linter.unusedVariables false
set_option linter.unusedSimpArgs false

def inR (n lo hi : Int) : Bool := decide (lo ≤ n) && decide (n ≤ hi)

theorem isAtom_inR (n : Int) : isAtom n = inR n 0 1000000 := rfl

def clientOk (c : Client) : Bool :=
  inR c.step 1 10 && (hostOk c.host && (inR c.eph 0 1000000 && (inR c.body 0 1000000 && (inR c.inn 0 100 && (inR c.out 0 100 &&
    ((if c.tls = true then c.share.ok else decide (c.share = zeroT) && !c.proved) && (!c.must || !inR c.step 5 9 || c.tls && c.proved)))))))

def serverOk (s : Server) : Bool :=
  inR s.step 1 5 && (hostOk s.host && (inR s.key 0 1000000 && (inR s.eph 0 1000000 && (s.cert.ok && (inR s.inn 0 100 && (inR s.out 0 100 &&
    ((if (s.tls || decide (s.step = 3)) = true then s.share.ok else decide (s.share = zeroT)) && (decide ((s.got.length : Int) ≤ 20) && s.got.all isAtom))))))))

def newClient (host : ByteArray) (must : Bool) (eph body : Int) : Client := ⟨1, host, must, eph, body, zeroT, 0, 0, false, false⟩

def clientNew (host : ByteArray) (must : Bool) (eph body : Int) : Client × Bool :=
  if clientOk (newClient host must eph body) = true then (newClient host must eph body, true) else (zeroClient, false)

end Go.Vm
