/- The kinds' functions that read: a Close, a Stream; zeros. -/
import Derived.Test.YteegonadodmeeaaDoorGaR
namespace Go.Proofs.YteegonadodmeeaaDoor
open Go.RowKit

def ReadsIf (fn : Nat) (fl : Bool) (rd : Fr → RS → Fr × RS) : Prop := ∀ (w : World) (rb fb : Nat) (s : RS) (f : Fr) (vd vr : Value), RdS w w rb fb s f vd vr → f.fl = fl → (s.l.length : Int) ≤ 10000000 → Calls Tryd.prog fn #[.pointer (some ⟨rb, 0, none⟩), .pointer (some ⟨fb, 0, none⟩)] w (ReadR w rb fb (rd f s))
set_option maxHeartbeats 2000000 in
set_option maxRecDepth 10000 in
theorem read41t : ReadsIf 88 true (fun f s => ((f.setC s.int.1).setD (s.int.2.int.2.bytes s.int.2.int.1).1, (s.int.2.int.2.bytes s.int.2.int.1).2)) := by
  intro w rb fb s0 f vd vr hS hfl hl
  have HS0 := Lib.hid hS
  have HFL := Lib.hid hfl
  clear hS hl hfl
  show Calls _ _ _ _ _
  go_enter Tryd.func88, Tryd.ntmps88
  go_wp2_with fail
  refine (int_any HS0.out.rd).mono ?_
  rintro e w1 ⟨rfl, hr, hM⟩
  have HS1 := Lib.hid (HS0.out.rd1 hM hr)
  clear hr hM
  obtain ⟨d0, d1, d2, d3, d4, d5, d6, d7⟩ := HS1.out.fr.cells
  rw [HFL.out] at d5
  have f4 := HS1.out.fr.blk.free 4
  go_wp2_with fail
  have HS2 := Lib.hid (HS1.out.setC s0.int.1)
  clear d0 d1 d2 d3 d4 d5 d6 d7 f4
  refine (int_any HS2.out.rd).mono ?_
  rintro e w3 ⟨rfl, hr, hM⟩
  have HS3 := Lib.hid (HS2.out.rd1 hM hr)
  clear hr hM
  go_wp2_with fail
  refine (bytes_any s0.int.2.int.1 HS3.out.rd).mono ?_
  rintro e w4 ⟨v, rfl, ho, hr, hM⟩
  have HS4 := Lib.hid (HS3.out.rd1 hM hr)
  have HO := Lib.hid (ho.mono (B' := w.heap.size) HS3.out.mod.size)
  obtain ⟨a0, c0, rfl, _⟩ := byts_val ho.byts
  clear ho hr hM
  generalize hll : ((s0.int.2.int.2.bytes s0.int.2.int.1).1).length = ll at *
  clear hll
  obtain ⟨d0, d1, d2, d3, d4, d5, d6, d7⟩ := HS4.out.fr.cells
  have f6 := HS4.out.fr.blk.free 6
  go_wp2
  go_end0
  exact ⟨rfl, .slice a0 ll c0, vr, HS4.out.setD HO.out⟩
set_option maxHeartbeats 2000000 in
set_option maxRecDepth 10000 in
theorem read41f : ReadsIf 88 false (fun f s => (((f.setC s.int.1).setA s.int.2.int.1).setD (s.int.2.int.2.int.2.bytes s.int.2.int.2.int.1).1, (s.int.2.int.2.int.2.bytes s.int.2.int.2.int.1).2)) := by
  intro w rb fb s0 f vd vr hS hfl hl
  have HS0 := Lib.hid hS
  have HFL := Lib.hid hfl
  clear hS hl hfl
  show Calls _ _ _ _ _
  go_enter Tryd.func88, Tryd.ntmps88
  go_wp2_with fail
  refine (int_any HS0.out.rd).mono ?_
  rintro e w1 ⟨rfl, hr, hM⟩
  have HS1 := Lib.hid (HS0.out.rd1 hM hr)
  clear hr hM
  obtain ⟨d0, d1, d2, d3, d4, d5, d6, d7⟩ := HS1.out.fr.cells
  rw [HFL.out] at d5
  have f4 := HS1.out.fr.blk.free 4
  go_wp2_with fail
  have HS2 := Lib.hid (HS1.out.setC s0.int.1)
  clear d0 d1 d2 d3 d4 d5 d6 d7 f4
  refine (int_any HS2.out.rd).mono ?_
  rintro e w3 ⟨rfl, hr, hM⟩
  have HS3 := Lib.hid (HS2.out.rd1 hM hr)
  clear hr hM
  obtain ⟨d0, d1, d2, d3, d4, d5, d6, d7⟩ := HS3.out.fr.cells
  have f2 := HS3.out.fr.blk.free 2
  go_wp2_with fail
  have HS4 := Lib.hid (HS3.out.setA s0.int.2.int.1)
  clear d0 d1 d2 d3 d4 d5 d6 d7 f2
  refine (int_any HS4.out.rd).mono ?_
  rintro e w5 ⟨rfl, hr, hM⟩
  have HS5 := Lib.hid (HS4.out.rd1 hM hr)
  clear hr hM
  go_wp2_with fail
  refine (bytes_any s0.int.2.int.2.int.1 HS5.out.rd).mono ?_
  rintro e w6 ⟨v, rfl, ho, hr, hM⟩
  have HS6 := Lib.hid (HS5.out.rd1 hM hr)
  have HO := Lib.hid (ho.mono (B' := w.heap.size) HS5.out.mod.size)
  obtain ⟨a0, c0, rfl, _⟩ := byts_val ho.byts
  clear ho hr hM
  generalize hll : ((s0.int.2.int.2.int.2.bytes s0.int.2.int.2.int.1).1).length = ll at *
  clear hll
  obtain ⟨d0, d1, d2, d3, d4, d5, d6, d7⟩ := HS6.out.fr.cells
  have f6 := HS6.out.fr.blk.free 6
  go_wp2
  go_end0
  exact ⟨rfl, .slice a0 ll c0, vr, HS6.out.setD HO.out⟩
/-- A Stream behind its type, whose bits are told. -/
def strmL (b4 b2 b1 : Bool) (f : Fr) (s : RS) : Fr × RS :=
  let i := s.int
  let a := bif b4 then i.2.int else (f.a, i.2)
  let n := bif b2 then a.2.int else (a.2.l.length, a.2)
  let d := n.2.bytes n.1
  ((((f.setId i.1).setA a.1).setF b1).setD d.1, d.2)
theorem and_bit (t : Nat) (h : t ≤ 30) : (bits BinOp.and IntKind.i64 (t : Int) 4 != 0) = decide (t / 4 % 2 = 1) ∧ (bits BinOp.and IntKind.i64 (t : Int) 2 != 0) = decide (t / 2 % 2 = 1) ∧ (bits BinOp.and IntKind.i64 (t : Int) 1 != 0) = decide (t % 2 = 1) := by
  have key : ∀ t : Fin 31, (bits BinOp.and IntKind.i64 ((t.val : Nat) : Int) 4 != 0) = decide (t.val / 4 % 2 = 1) ∧ (bits BinOp.and IntKind.i64 ((t.val : Nat) : Int) 2 != 0) = decide (t.val / 2 % 2 = 1) ∧ (bits BinOp.and IntKind.i64 ((t.val : Nat) : Int) 1 != 0) = decide (t.val % 2 = 1) := by decide +kernel
  exact key ⟨t, by omega⟩
theorem setA_self (f : Fr) : f.setA f.a = f := rfl
end Go.Proofs.YteegonadodmeeaaDoor
