/- The plain law of frames: when they are right, their bytes, and how bytes are read. No program in sight. -/
import Derived.Test.YteegonadodmeeaaDoorPlainB
import Derived.Test.YteegonadodmeeaaDoorKit
namespace Go.Proofs.YteegonadodmeeaaDoor

/-- A frame. -/
structure Fr where
  k : Int
  id : Nat
  a : Nat
  b : Nat
  c : Nat
  fl : Bool
  d : List UInt8
  rs : List (Nat × Nat)
  t : List UInt8
deriving DecidableEq
def topN : Nat := 4611686018427387903
def zeros16 : List UInt8 := [0, 0, 0, 0, 0, 0, 0, 0, 0, 0, 0, 0, 0, 0, 0, 0]
def Fr.zero : Fr := ⟨0, 0, 0, 0, 0, false, [], [], zeros16⟩
def Fr.ofKind (k : Int) (fl : Bool) : Fr := ⟨k, 0, 0, 0, 0, fl, [], [], zeros16⟩
def sameF (f g : Fr) : Bool := decide (f = g)
/-- What a kind has. -/
structure Mk where
  i : Bool
  a : Bool
  b : Bool
  c : Bool
  f : Bool
  d : Bool
  r : Bool
  t : Bool
def maskN : Nat → Option Mk
  | 0 => some ⟨false, true, false, false, false, false, false, false⟩
  | 1 => some ⟨false, false, false, false, false, false, false, false⟩
  | 2 => some ⟨false, false, true, false, false, false, true, false⟩
  | 4 => some ⟨true, true, false, true, false, false, false, false⟩
  | 5 => some ⟨true, false, false, true, false, false, false, false⟩
  | 6 => some ⟨false, true, false, false, false, true, false, false⟩
  | 7 => some ⟨false, false, false, false, false, true, false, false⟩
  | 8 => some ⟨true, true, false, false, true, true, false, false⟩
  | 16 => some ⟨false, true, false, false, false, false, false, false⟩
  | 17 => some ⟨true, true, false, false, false, false, false, false⟩
  | 18 => some ⟨false, true, false, false, true, false, false, false⟩
  | 20 => some ⟨false, true, false, false, false, false, false, false⟩
  | 21 => some ⟨true, true, false, false, false, false, false, false⟩
  | 22 => some ⟨false, true, false, false, true, false, false, false⟩
  | 24 => some ⟨true, true, false, false, false, true, false, true⟩
  | 25 => some ⟨true, false, false, false, false, false, false, false⟩
  | 26 => some ⟨false, false, false, false, false, true, false, false⟩
  | 27 => some ⟨false, false, false, false, false, true, false, false⟩
  | 28 => some ⟨false, true, false, true, true, true, false, false⟩
  | 30 => some ⟨false, false, false, false, false, false, false, false⟩
  | _ => none
def maskK (k : Int) : Option Mk := if 0 ≤ k then maskN k.toNat else none
def onlyF (m : Mk) (f : Fr) : Fr :=
  ⟨f.k, bif m.i then f.id else 0, bif m.a then f.a else 0, bif m.b then f.b else 0, bif m.c then f.c else 0, bif m.f then f.fl else false, bif m.d then f.d else [], bif m.r then f.rs else [], bif m.t then f.t else zeros16⟩
/-- What stands behind a range is two below it at least. -/
def rngB : Option Nat → List (Nat × Nat) → Bool
  | _, [] => true
  | none, x :: l => decide (x.1 ≤ x.2) && decide (x.2 ≤ topN) && rngB (some x.1) l
  | some p, x :: l => decide (x.1 ≤ x.2) && decide (x.2 ≤ topN) && decide (2 ≤ p) && decide (x.2 ≤ p - 2) && rngB (some x.1) l
def rangesB (l : List (Nat × Nat)) : Bool := rngB none l && decide (1 ≤ l.length) && decide (l.length ≤ 16)
def okN (k : Nat) (f : Fr) : Bool :=
  match k with
  | 0 => decide (1 ≤ f.a) && decide (f.a ≤ 1200)
  | 2 => rangesB f.rs
  | 6 => decide (f.d.length ≤ 1200) && decide (f.a + f.d.length ≤ topN)
  | 7 => decide (f.d.length ≤ 1200) && decide (1 ≤ f.d.length)
  | 8 => decide (f.d.length ≤ 1200) && decide (f.a + f.d.length ≤ topN)
  | 18 => decide (f.a ≤ 1152921504606846976)
  | 22 => decide (f.a ≤ 1152921504606846976)
  | 24 => decide (f.a ≤ f.id) && decide (1 ≤ f.d.length) && decide (f.d.length ≤ 20)
  | 26 => decide (f.d.length = 8)
  | 27 => decide (f.d.length = 8)
  | 28 => decide (f.d.length ≤ 1200) && (!f.fl || decide (f.a = 0))
  | _ => true
def topB (f : Fr) : Bool := decide (f.id ≤ topN) && decide (f.a ≤ topN) && decide (f.b ≤ topN) && decide (f.c ≤ topN)
def rightF (f : Fr) : Bool :=
  match maskK f.k with
  | none => false
  | some m => topB f && sameF f (onlyF m f) && okN f.k.toNat f
def dataL (d : List UInt8) : List UInt8 := putL d.length ++ d
def gapsL : Nat → List (Nat × Nat) → List UInt8
  | _, [] => []
  | p, x :: l => putL (p - x.2 - 2) ++ putL (x.2 - x.1) ++ gapsL x.1 l
def ackL (b : Nat) : List (Nat × Nat) → List UInt8
  | [] => []
  | x :: l => putL x.2 ++ putL b ++ putL l.length ++ putL (x.2 - x.1) ++ gapsL x.1 l
/-- What stands behind a frame's type. -/
def bodyN (k : Nat) (f : Fr) : List UInt8 :=
  match k with
  | 0 => List.replicate (f.a - 1) 0
  | 2 => ackL f.b f.rs
  | 4 => putL f.id ++ putL f.c ++ putL f.a
  | 5 => putL f.id ++ putL f.c
  | 6 => putL f.a ++ dataL f.d
  | 7 => dataL f.d
  | 8 => putL f.id ++ (if f.a = 0 then [] else putL f.a) ++ dataL f.d
  | 16 => putL f.a
  | 17 => putL f.id ++ putL f.a
  | 18 => putL f.a
  | 20 => putL f.a
  | 21 => putL f.id ++ putL f.a
  | 22 => putL f.a
  | 24 => putL f.id ++ putL f.a ++ [UInt8.ofNat f.d.length] ++ f.d ++ f.t
  | 25 => putL f.id
  | 26 => f.d
  | 27 => f.d
  | 28 => putL f.c ++ (bif f.fl then [] else putL f.a) ++ dataL f.d
  | _ => []
def tagN (f : Fr) : Nat :=
  if f.k = 8 then 10 + (if f.a = 0 then 0 else 4) + (if f.fl = true then 1 else 0)
  else f.k.toNat + (if f.fl = true then 1 else 0)
def fputL (f : Fr) : List UInt8 := if rightF f = true then UInt8.ofNat (tagN f) :: bodyN f.k.toNat f else []
def elicB (f : Fr) : Bool := !(decide (f.k = 0) || decide (f.k = 2) || decide (f.k = 28))
/-- A type's kind, and its flag. -/
def knownL (t : Nat) : Int × Bool :=
  if 8 ≤ t ∧ t < 16 then (8, false)
  else if t = 3 then (2, false)
  else if t = 19 ∨ t = 23 ∨ t = 29 then (((t - 1 : Nat) : Int), true)
  else if 30 < t then (-1, false) else ((t : Int), false)
/-- Ranges behind the first one. -/
def readGaps : Nat → List (Nat × Nat) → Nat → RS → List (Nat × Nat) × RS
  | 0, out, _, s => (out, s)
  | n + 1, out, lo, s =>
    if s.int.2.int.2.e ≠ 0 ∨ lo < 2 ∨ lo - 2 < s.int.1 ∨ lo - 2 - s.int.1 < s.int.2.int.1 then (out, s.int.2.int.2.fail 3)
    else readGaps n (out ++ [(lo - 2 - s.int.1 - s.int.2.int.1, lo - 2 - s.int.1)]) (lo - 2 - s.int.1 - s.int.2.int.1) s.int.2.int.2
def readAckL (f : Fr) (s : RS) : Fr × RS :=
  let h := s.int; let b := h.2.int; let n := b.2.int; let r := n.2.int
  if r.2.e ≠ 0 ∨ 16 ≤ n.1 ∨ h.1 < r.1 then ({ f with b := b.1 }, r.2.fail 3)
  else let g := readGaps n.1 [(h.1 - r.1, h.1)] (h.1 - r.1) r.2
    ({ f with b := b.1, rs := g.1 }, g.2)
def readStreamL (tag : Nat) (f : Fr) (s : RS) : Fr × RS :=
  let i := s.int
  let a := if tag / 4 % 2 = 1 then i.2.int else (0, i.2)
  let n := if tag / 2 % 2 = 1 then a.2.int else (a.2.l.length, a.2)
  let d := n.2.bytes n.1
  ({ f with id := i.1, a := a.1, fl := decide (tag % 2 = 1), d := d.1 }, d.2)
/-- How many bytes 0 stand ahead. -/
def zeroN : Nat → List UInt8 → Nat
  | 0, _ => 0
  | _ + 1, [] => 0
  | n + 1, c :: l => if c = 0 then zeroN n l + 1 else 0
def tokL (t : List UInt8) : List UInt8 := if t.length = 16 then t else zeros16
/-- A frame of a kind behind its type. -/
def readN (tag : Nat) (k : Nat) (f : Fr) (s : RS) : Fr × RS :=
  match k with
  | 0 => ({ f with a := zeroN 1199 s.l + 1 }, ⟨s.l.drop (zeroN 1199 s.l), s.e⟩)
  | 2 => readAckL f s
  | 4 => ({ f with id := s.int.1, c := s.int.2.int.1, a := s.int.2.int.2.int.1 }, s.int.2.int.2.int.2)
  | 5 => ({ f with id := s.int.1, c := s.int.2.int.1 }, s.int.2.int.2)
  | 6 => ({ f with a := s.int.1, d := (s.int.2.int.2.bytes s.int.2.int.1).1 }, (s.int.2.int.2.bytes s.int.2.int.1).2)
  | 7 => ({ f with d := (s.int.2.bytes s.int.1).1 }, (s.int.2.bytes s.int.1).2)
  | 8 => readStreamL tag f s
  | 16 => ({ f with a := s.int.1 }, s.int.2)
  | 17 => ({ f with id := s.int.1, a := s.int.2.int.1 }, s.int.2.int.2)
  | 18 => ({ f with a := s.int.1 }, s.int.2)
  | 20 => ({ f with a := s.int.1 }, s.int.2)
  | 21 => ({ f with id := s.int.1, a := s.int.2.int.1 }, s.int.2.int.2)
  | 22 => ({ f with a := s.int.1 }, s.int.2)
  | 24 => ({ f with id := s.int.1, a := s.int.2.int.1, d := (s.int.2.int.2.byte.2.bytes s.int.2.int.2.byte.1.toNat).1, t := tokL ((s.int.2.int.2.byte.2.bytes s.int.2.int.2.byte.1.toNat).2.bytes 16).1 }, ((s.int.2.int.2.byte.2.bytes s.int.2.int.2.byte.1.toNat).2.bytes 16).2)
  | 25 => ({ f with id := s.int.1 }, s.int.2)
  | 26 => ({ f with d := (s.bytes 8).1 }, (s.bytes 8).2)
  | 27 => ({ f with d := (s.bytes 8).1 }, (s.bytes 8).2)
  | 28 => let a := if f.fl = true then (0, s.int.2) else s.int.2.int
    ({ f with c := s.int.1, a := a.1, d := (a.2.int.2.bytes a.2.int.1).1 }, (a.2.int.2.bytes a.2.int.1).2)
  | _ => (f, s)
def three (t : Nat) (s : RS) : RS := if t = 3 then s.int.2.int.2.int.2 else s
def nextK (t : Nat) (r : Fr × RS) : Fr × RS := if (three t r.2).e = 0 ∧ rightF r.1 = true then (r.1, three t r.2) else (Fr.zero, (three t r.2).fail 3)
/-- The frame that stands there. -/
def nextF (s : RS) : Fr × RS :=
  if s.int.2.e ≠ 0 then (Fr.zero, s.int.2.fail 3)
  else if (maskK (knownL s.int.1).1).isNone = true then (Fr.zero, s.int.2.fail 3)
  else nextK s.int.1 (readN s.int.1 (knownL s.int.1).1.toNat (Fr.ofKind (knownL s.int.1).1 (knownL s.int.1).2) s.int.2)
def mostL (n : Nat) (s : RS) : RS := if n = 64 then s.fail 3 else s
def finL (out : List Fr) (s : RS) : List Fr × Int :=
  if (if out = [] then s.fail 3 else s).e ≠ 0 then ([], (if out = [] then s.fail 3 else s).e) else (out, 0)
/-- All frames. -/
def parseN : Nat → List Fr → RS → List Fr × Int
  | 0, out, s => finL out s
  | n + 1, out, s => if s.l = [] then finL out s else parseN n (out ++ [(nextF s).1]) (mostL out.length (nextF s).2)
def parseL (b : List UInt8) : List Fr × Int := parseN (b.length + 1) [] ⟨b, 0⟩
end Go.Proofs.YteegonadodmeeaaDoor
