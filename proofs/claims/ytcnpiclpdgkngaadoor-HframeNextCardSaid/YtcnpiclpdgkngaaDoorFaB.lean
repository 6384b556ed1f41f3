/- The plain law of HTTP/3's frames and of field sections. No program in sight. -/
import Derived.Test.YtcnpiclpdgkngaaDoorPlainB
import Derived.Test.YtcnpiclpdgkngaaDoorKit
namespace Go.Proofs.YtcnpiclpdgkngaaDoor

/-- A frame. -/
structure HF where
  k : Int
  id : Nat
  st : List (Nat × Nat)
  d : List UInt8
def HF.zero : HF := ⟨0, 0, [], []⟩
def topN : Nat := 4611686018427387903
def okSet (s : Nat × Nat) : Bool := decide (s.1 ≠ 0) && !(decide (2 ≤ s.1) && decide (s.1 ≤ 5)) && decide (s.1 ≤ topN) && decide (s.2 ≤ topN)
/-- No number twice. -/
def freshB : List (Nat × Nat) → Bool
  | [] => true
  | s :: l => !(l.any fun t => t.1 == s.1) && freshB l
def settingsB (l : List (Nat × Nat)) : Bool := l.all okSet && freshB l && decide (l.length ≤ 16)
def isData (k : Int) : Bool := decide (k = 0) || decide (k = 1)
def isId (k : Int) : Bool := decide (k = 3) || decide (k = 7) || decide (k = 13)
def rightH (f : HF) : Bool :=
  if isData f.k = true then decide (f.id = 0) && decide (f.st.length = 0) && decide (f.d.length ≤ 1000)
  else if f.k = 4 then decide (f.id = 0) && decide (f.d.length = 0) && settingsB f.st
  else if isId f.k = true then decide (f.id ≤ topN) && decide (f.d.length + f.st.length = 0)
  else false
def setL (l : List (Nat × Nat)) : List UInt8 := l.flatMap fun s => putL s.1 ++ putL s.2
/-- What stands behind a frame's length. -/
def bodyL (f : HF) : List UInt8 := if isData f.k = true then f.d else if f.k = 4 then setL f.st else putL f.id
def hfputL (f : HF) : List UInt8 := if rightH f = true then putL f.k.toNat ++ putL (bodyL f).length ++ bodyL f else []
def sameHF (f g : HF) : Bool := decide (f.k = g.k) && decide (f.id = g.id) && decide (f.st = g.st) && decide (f.d = g.d)
/-- Settings are read: 17 at most. -/
def readSetL : Nat → List (Nat × Nat) → RS → List (Nat × Nat) × RS
  | 0, l, s => (l, s)
  | f + 1, l, s => if s.l = [] then (l, s) else readSetL f (l ++ [(s.int.1, s.int.2.int.1)]) s.int.2.int.2
/-- A frame of this kind out of its body, and the reader behind. -/
def readK (k : Nat) (b : List UInt8) : HF × RS :=
  if isData (k : Int) = true then (⟨(k : Int), 0, [], b⟩, ⟨[], 0⟩)
  else if k = 4 then (⟨4, 0, (readSetL 17 [] ⟨b, 0⟩).1, []⟩, (readSetL 17 [] ⟨b, 0⟩).2)
  else (⟨(k : Int), (RS.int ⟨b, 0⟩).1, [], []⟩, (RS.int ⟨b, 0⟩).2)
def isKind (k : Nat) : Bool := isData (k : Int) || isId (k : Int) || decide (k = 4)
def nextE (k : Nat) (b : List UInt8) (n : Nat) : HF × Nat × Int :=
  if (readK k b).2.e ≠ 0 ∨ (readK k b).2.l ≠ [] ∨ rightH (readK k b).1 = false then (HF.zero, 0, 3) else ((readK k b).1, n, 0)
def isOld (k : Nat) : Bool := decide (k = 2) || decide (k = 6) || decide (k = 8) || decide (k = 9)
def nextL (b : List UInt8) : HF × Nat × Int :=
  if (RS.int ⟨b, 0⟩).2.e = 0 ∧ isOld (RS.int ⟨b, 0⟩).1 = true then (HF.zero, 0, 3)
  else if ((RS.int ⟨b, 0⟩).2.int.2.bytes (RS.int ⟨b, 0⟩).2.int.1).2.e ≠ 0 then (HF.zero, 0, 2)
  else if isKind (RS.int ⟨b, 0⟩).1 = false then (HF.zero, b.length - ((RS.int ⟨b, 0⟩).2.int.2.bytes (RS.int ⟨b, 0⟩).2.int.1).2.l.length, 6)
  else nextE (RS.int ⟨b, 0⟩).1 ((RS.int ⟨b, 0⟩).2.int.2.bytes (RS.int ⟨b, 0⟩).2.int.1).1 (b.length - ((RS.int ⟨b, 0⟩).2.int.2.bytes (RS.int ⟨b, 0⟩).2.int.1).2.l.length)
/-- A field: its name's bytes, its value's. -/
structure Fd where
  n : List UInt8
  v : List UInt8
def isUp (c : UInt8) : Bool := decide (65 ≤ c.toNat) && decide (c.toNat ≤ 90)
def badFd (f : Fd) : Bool := decide (f.n.length < 1) || decide (60 < f.n.length) || decide (200 < f.v.length) || f.n.any isUp
def fieldsB (l : List Fd) : Bool := decide (l.length ≤ 32) && !(l.any badFd)
def textL (s : List UInt8) : List UInt8 := putL s.length ++ s
def fdL (f : Fd) : List UInt8 := 32 :: textL f.n ++ textL f.v
def packL (l : List Fd) : List UInt8 := if fieldsB l = true then l.flatMap fdL else []
/-- A section is read. -/
def unpackL : Nat → List Fd → RS → List Fd × Int
  | 0, out, _ => (out, 0)
  | f + 1, out, s =>
    if s.l = [] then (out, 0)
    else if s.byte.1 ≠ 32 then ([], 3)
    else if ((s.byte.2.int.2.bytes s.byte.2.int.1).2.int.2.bytes (s.byte.2.int.2.bytes s.byte.2.int.1).2.int.1).2.e ≠ 0 then ([], ((s.byte.2.int.2.bytes s.byte.2.int.1).2.int.2.bytes (s.byte.2.int.2.bytes s.byte.2.int.1).2.int.1).2.e)
    else if fieldsB (out ++ [⟨(s.byte.2.int.2.bytes s.byte.2.int.1).1, ((s.byte.2.int.2.bytes s.byte.2.int.1).2.int.2.bytes (s.byte.2.int.2.bytes s.byte.2.int.1).2.int.1).1⟩]) = false then ([], 3)
    else unpackL f (out ++ [⟨(s.byte.2.int.2.bytes s.byte.2.int.1).1, ((s.byte.2.int.2.bytes s.byte.2.int.1).2.int.2.bytes (s.byte.2.int.2.bytes s.byte.2.int.1).2.int.1).1⟩]) ((s.byte.2.int.2.bytes s.byte.2.int.1).2.int.2.bytes (s.byte.2.int.2.bytes s.byte.2.int.1).2.int.1).2
end Go.Proofs.YtcnpiclpdgkngaaDoor
