/- The plain law of the parameters: when they may be, their bytes, and how bytes are read. No program in sight. -/
import Derived.Test.YtacgcpofpmkgnaaDoorPlainB
import Derived.Test.YtacgcpofpmkgnaaDoorKit
namespace Go.Proofs.YtacgcpofpmkgnaaDoor

/-- Parameters. -/
structure Pm where
  i : Nat
  d : Nat
  s : Nat
  n : Nat
  h : Bool
  t : List UInt8
def zeros16 : List UInt8 := [0, 0, 0, 0, 0, 0, 0, 0, 0, 0, 0, 0, 0, 0, 0, 0]
def Pm.zero : Pm := ⟨0, 0, 0, 0, false, zeros16⟩
def pmL (p : Pm) : List Value := [.int .u64 (p.i : Int), .int .u64 (p.d : Int), .int .u64 (p.s : Int), .int .u64 (p.n : Int), .bool p.h] ++ p.t.map bv
def pmC (p : Pm) : Array Value := (pmL p).toArray
def pmV (p : Pm) : Value := .agg (pmC p)
def mayB (p : Pm) : Bool := decide ((p.i : Int) ≤ 4611686018427387903) && decide ((p.d : Int) ≤ 4611686018427387903) && decide ((p.s : Int) ≤ 4611686018427387903) && decide ((p.n : Int) ≤ 1152921504606846976) && (p.h || decide (p.t = zeros16))
/-- One parameter's bytes; none of 0. -/
def oneL (id n : Nat) : List UInt8 := if n = 0 then [] else UInt8.ofNat id :: UInt8.ofNat (putL n).length :: putL n
def tokL (p : Pm) : List UInt8 := if p.h = true then 2 :: 16 :: p.t else []
def pputL (p : Pm) : List UInt8 := if mayB p = true then oneL 1 p.i ++ tokL p ++ oneL 4 p.d ++ oneL 5 p.s ++ oneL 8 p.n else []
def knownB (id : Nat) : Bool := decide (id = 1) || decide (id = 2) || decide (id = 4) || decide (id = 5) || decide (id = 8)
def setP (p : Pm) (id x : Nat) : Pm := if id = 1 then { p with i := x } else if id = 4 then { p with d := x } else if id = 5 then { p with s := x } else if id = 8 then { p with n := x } else p
def takeL (p : Pm) (id : Nat) (v : List UInt8) : Option Pm :=
  if id = 2 then (if v.length = 16 then some { p with h := true, t := v } else none)
  else if knownB id = true then (if (RS.int ⟨v, 0⟩).2.e = 0 ∧ (RS.int ⟨v, 0⟩).2.l = [] then some (setP p id (RS.int ⟨v, 0⟩).1) else none)
  else some p
/-- The end of a reading. -/
def finP (p : Pm) : Pm × Int := if mayB p = true then (p, 0) else (Pm.zero, 3)
def preadL : Nat → Pm → List Nat → RS → Pm × Int
  | 0, p, _, _ => finP p
  | f + 1, p, had, s =>
    if s.l = [] then finP p
    else if (s.int.2.int.2.bytes s.int.2.int.1).2.e ≠ 0 then (Pm.zero, (s.int.2.int.2.bytes s.int.2.int.1).2.e)
    else if (knownB s.int.1 && had.contains s.int.1) = true then (Pm.zero, 11)
    else match takeL p s.int.1 (s.int.2.int.2.bytes s.int.2.int.1).1 with
      | none => (Pm.zero, 3)
      | some p' => preadL f p' (s.int.1 :: had) (s.int.2.int.2.bytes s.int.2.int.1).2
def idleN (a b : Nat) : Nat := if a = 0 ∨ (b ≠ 0 ∧ b < a) then b else a
def preadF (l : List UInt8) : Pm × Int := preadL (l.length + 1) Pm.zero [] ⟨l, 0⟩

theorem pmC_size (p : Pm) (h : p.t.length = 16) : (pmC p).size = 21 := by simp [pmC, pmL, h]
theorem pmC_one (p : Pm) : ∀ v ∈ pmL p, v.oneCell' = true := by
  intro v hv
  simp only [pmL, List.mem_append, List.mem_cons, List.not_mem_nil, or_false] at hv
  rcases hv with (rfl | rfl | rfl | rfl | rfl) | hv <;> try rfl
  exact bv_one _ _ hv
theorem pmC_tok (p : Pm) (j : Nat) (x : UInt8) (h : p.t[j]? = some x) : (pmC p)[5 + j]? = some (bv x) := by
  simp only [pmC, pmL, List.getElem?_toArray]
  rw [List.getElem?_append_right (by simp)]
  simp [h]
/-- A list is read again. -/
theorem one_val (p q : Pm) (h : pmL p = pmL q) : p = q := by
  obtain ⟨i, d, s, n, hh, t⟩ := p
  obtain ⟨i', d', s', n', hh', t'⟩ := q
  simp only [pmL, List.cons_append, List.nil_append, List.cons.injEq, Value.int.injEq, Value.bool.injEq, true_and, Int.natCast_inj] at h
  obtain ⟨rfl, rfl, rfl, rfl, rfl, h⟩ := h
  have e : t = t' := by
    have := List.map_inj_right (f := bv) (l := t) (l' := t') (by
      intro x y hxy
      simp only [bv, Value.int.injEq, true_and, Int.natCast_inj, UInt8.toNat_inj] at hxy
      exact hxy)
    exact this.1 h
  rw [e]
end Go.Proofs.YtacgcpofpmkgnaaDoor
