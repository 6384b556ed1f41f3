/- A Stream is read: the program's. (printed by gengat.py) -/
import Derived.Test.YteegonadodmeeaaDoorGaS
namespace Go.Proofs.YteegonadodmeeaaDoor
open Go.RowKit

theorem Rdr.len {w : World} {rb : Nat} {s : RS} (h : Rdr w rb s) : s.l.length ≤ 140737488355328 := by obtain ⟨_, a, cap, _, _, _, _, h5, _⟩ := h; exact h5
set_option maxHeartbeats 4000000 in
set_option maxRecDepth 10000 in
theorem strm_00 {w : World} {rb fb : Nat} {s0 : RS} {f : Fr} {vd vr : Value} {z : Int} {b1 : Bool} (hS : RdS w w rb fb s0 f vd vr) (hb4 : (bits BinOp.and IntKind.i64 z 4 != 0) = false) (hb2 : (bits BinOp.and IntKind.i64 z 2 != 0) = false) (hb1 : (bits BinOp.and IntKind.i64 z 1 != 0) = b1) :
    Calls Tryd.prog 94 #[.pointer (some ⟨rb, 0, none⟩), .pointer (some ⟨fb, 0, none⟩), .int .i64 z] w (ReadR w rb fb (strmL false false b1 f s0)) := by
  have HS0 := Lib.hid hS
  clear hS
  obtain ⟨R, hR⟩ : ∃ R, R = strmL false false b1 f s0 := ⟨_, rfl⟩
  rw [← hR]
  have HR := Lib.hid hR
  clear hR
  go_enter Tryd.func94, Tryd.ntmps94
  go_wp2_with fail
  refine (int_any HS0.out.rd).mono ?_
  rintro e w1 ⟨rfl, hr, hM⟩
  have HS1 := Lib.hid (HS0.out.rd1 hM hr)
  clear hr hM
  obtain ⟨d0, d1, d2, d3, d4, d5, d6, d7⟩ := HS1.out.fr.cells
  have f1 := HS1.out.fr.blk.free 1
  go_wp2_with fail
  have HS2 := Lib.hid (HS1.out.setId s0.int.1)
  clear d0 d1 d2 d3 d4 d5 d6 d7 f1
  have hlen := HS2.out.rd.len
  have hw : IntKind.u64.wrap ((s0.int.2.l.length : Nat) : Int) = ((s0.int.2.l.length : Nat) : Int) := IntWalk.u64_in _ (by omega)
  refine (left_any HS2.out.rd).mono ?_
  rintro e w5 ⟨rfl, rfl⟩
  clear hlen
  generalize hln : s0.int.2.l.length = ln at *
  have HLN := Lib.hid hln
  clear hln
  go_wp2_with fail
  refine (bytes_any ln HS2.out.rd).mono ?_
  rintro e w7 ⟨v, rfl, ho, hr, hM⟩
  have HS7 := Lib.hid (HS2.out.rd1 hM hr)
  have HO := Lib.hid (ho.mono (B' := w.heap.size) HS2.out.mod.size)
  obtain ⟨a0, c0, rfl, _⟩ := byts_val ho.byts
  clear ho hr hM
  generalize hll : ((s0.int.2.bytes ln).1).length = ll at *
  clear hll
  obtain ⟨d0, d1, d2, d3, d4, d5, d6, d7⟩ := HS7.out.fr.cells
  have f5 := HS7.out.fr.blk.free 5
  have f6 := HS7.out.fr.blk.free 6
  go_wp2
  go_end0
  refine ⟨rfl, .slice a0 ll c0, vr, ?_⟩
  rw [HR.out]
  unfold strmL
  simp only [cond_false]
  rw [HLN.out]
  exact (HS7.out.setF b1).setD ((HS7.out.own HO.out ((Mod.refl _ _).setCell (p := ⟨fb, 5, none⟩) (fun _ => .inr rfl) _)))
set_option maxHeartbeats 4000000 in
set_option maxRecDepth 10000 in
theorem strm_01 {w : World} {rb fb : Nat} {s0 : RS} {f : Fr} {vd vr : Value} {z : Int} {b1 : Bool} (hS : RdS w w rb fb s0 f vd vr) (hb4 : (bits BinOp.and IntKind.i64 z 4 != 0) = false) (hb2 : (bits BinOp.and IntKind.i64 z 2 != 0) = true) (hb1 : (bits BinOp.and IntKind.i64 z 1 != 0) = b1) :
    Calls Tryd.prog 94 #[.pointer (some ⟨rb, 0, none⟩), .pointer (some ⟨fb, 0, none⟩), .int .i64 z] w (ReadR w rb fb (strmL false true b1 f s0)) := by
  have HS0 := Lib.hid hS
  clear hS
  obtain ⟨R, hR⟩ : ∃ R, R = strmL false true b1 f s0 := ⟨_, rfl⟩
  rw [← hR]
  have HR := Lib.hid hR
  clear hR
  go_enter Tryd.func94, Tryd.ntmps94
  go_wp2_with fail
  refine (int_any HS0.out.rd).mono ?_
  rintro e w1 ⟨rfl, hr, hM⟩
  have HS1 := Lib.hid (HS0.out.rd1 hM hr)
  clear hr hM
  obtain ⟨d0, d1, d2, d3, d4, d5, d6, d7⟩ := HS1.out.fr.cells
  have f1 := HS1.out.fr.blk.free 1
  go_wp2_with fail
  have HS2 := Lib.hid (HS1.out.setId s0.int.1)
  clear d0 d1 d2 d3 d4 d5 d6 d7 f1
  have hlen := HS2.out.rd.len
  have hw : IntKind.u64.wrap ((s0.int.2.l.length : Nat) : Int) = ((s0.int.2.l.length : Nat) : Int) := IntWalk.u64_in _ (by omega)
  refine (left_any HS2.out.rd).mono ?_
  rintro e w5 ⟨rfl, rfl⟩
  clear hlen
  generalize hln : s0.int.2.l.length = ln at *
  have HLN := Lib.hid hln
  clear hln
  go_wp2_with fail
  refine (int_any HS2.out.rd).mono ?_
  rintro e w6 ⟨rfl, hr, hM⟩
  have HS6 := Lib.hid (HS2.out.rd1 hM hr)
  clear hr hM
  go_wp2_with fail
  refine (bytes_any (s0.int.2.int.1) HS6.out.rd).mono ?_
  rintro e w7 ⟨v, rfl, ho, hr, hM⟩
  have HS7 := Lib.hid (HS6.out.rd1 hM hr)
  have HO := Lib.hid (ho.mono (B' := w.heap.size) HS6.out.mod.size)
  obtain ⟨a0, c0, rfl, _⟩ := byts_val ho.byts
  clear ho hr hM
  generalize hll : ((s0.int.2.int.2.bytes (s0.int.2.int.1)).1).length = ll at *
  clear hll
  obtain ⟨d0, d1, d2, d3, d4, d5, d6, d7⟩ := HS7.out.fr.cells
  have f5 := HS7.out.fr.blk.free 5
  have f6 := HS7.out.fr.blk.free 6
  go_wp2
  go_end0
  refine ⟨rfl, .slice a0 ll c0, vr, ?_⟩
  rw [HR.out]
  unfold strmL
  simp only [cond_true, cond_false]
  exact (HS7.out.setF b1).setD ((HS7.out.own HO.out ((Mod.refl _ _).setCell (p := ⟨fb, 5, none⟩) (fun _ => .inr rfl) _)))
set_option maxHeartbeats 4000000 in
set_option maxRecDepth 10000 in
theorem strm_10 {w : World} {rb fb : Nat} {s0 : RS} {f : Fr} {vd vr : Value} {z : Int} {b1 : Bool} (hS : RdS w w rb fb s0 f vd vr) (hb4 : (bits BinOp.and IntKind.i64 z 4 != 0) = true) (hb2 : (bits BinOp.and IntKind.i64 z 2 != 0) = false) (hb1 : (bits BinOp.and IntKind.i64 z 1 != 0) = b1) :
    Calls Tryd.prog 94 #[.pointer (some ⟨rb, 0, none⟩), .pointer (some ⟨fb, 0, none⟩), .int .i64 z] w (ReadR w rb fb (strmL true false b1 f s0)) := by
  have HS0 := Lib.hid hS
  clear hS
  obtain ⟨R, hR⟩ : ∃ R, R = strmL true false b1 f s0 := ⟨_, rfl⟩
  rw [← hR]
  have HR := Lib.hid hR
  clear hR
  go_enter Tryd.func94, Tryd.ntmps94
  go_wp2_with fail
  refine (int_any HS0.out.rd).mono ?_
  rintro e w1 ⟨rfl, hr, hM⟩
  have HS1 := Lib.hid (HS0.out.rd1 hM hr)
  clear hr hM
  obtain ⟨d0, d1, d2, d3, d4, d5, d6, d7⟩ := HS1.out.fr.cells
  have f1 := HS1.out.fr.blk.free 1
  go_wp2_with fail
  have HS2 := Lib.hid (HS1.out.setId s0.int.1)
  clear d0 d1 d2 d3 d4 d5 d6 d7 f1
  refine (int_any HS2.out.rd).mono ?_
  rintro e w3 ⟨rfl, hr, hM⟩
  have HS3 := Lib.hid (HS2.out.rd1 hM hr)
  clear hr hM
  obtain ⟨d0, d1, d2, d3, d4, d5, d6, d7⟩ := HS3.out.fr.cells
  have f2 := HS3.out.fr.blk.free 2
  go_wp2_with fail
  have HS4 := Lib.hid (HS3.out.setA s0.int.2.int.1)
  clear d0 d1 d2 d3 d4 d5 d6 d7 f2
  have hlen := HS4.out.rd.len
  have hw : IntKind.u64.wrap ((s0.int.2.int.2.l.length : Nat) : Int) = ((s0.int.2.int.2.l.length : Nat) : Int) := IntWalk.u64_in _ (by omega)
  refine (left_any HS4.out.rd).mono ?_
  rintro e w5 ⟨rfl, rfl⟩
  clear hlen
  generalize hln : s0.int.2.int.2.l.length = ln at *
  have HLN := Lib.hid hln
  clear hln
  go_wp2_with fail
  refine (bytes_any ln HS4.out.rd).mono ?_
  rintro e w7 ⟨v, rfl, ho, hr, hM⟩
  have HS7 := Lib.hid (HS4.out.rd1 hM hr)
  have HO := Lib.hid (ho.mono (B' := w.heap.size) HS4.out.mod.size)
  obtain ⟨a0, c0, rfl, _⟩ := byts_val ho.byts
  clear ho hr hM
  generalize hll : ((s0.int.2.int.2.bytes ln).1).length = ll at *
  clear hll
  obtain ⟨d0, d1, d2, d3, d4, d5, d6, d7⟩ := HS7.out.fr.cells
  have f5 := HS7.out.fr.blk.free 5
  have f6 := HS7.out.fr.blk.free 6
  go_wp2
  go_end0
  refine ⟨rfl, .slice a0 ll c0, vr, ?_⟩
  rw [HR.out]
  unfold strmL
  simp only [cond_true, cond_false]
  rw [HLN.out]
  exact (HS7.out.setF b1).setD ((HS7.out.own HO.out ((Mod.refl _ _).setCell (p := ⟨fb, 5, none⟩) (fun _ => .inr rfl) _)))
set_option maxHeartbeats 4000000 in
set_option maxRecDepth 10000 in
theorem strm_11 {w : World} {rb fb : Nat} {s0 : RS} {f : Fr} {vd vr : Value} {z : Int} {b1 : Bool} (hS : RdS w w rb fb s0 f vd vr) (hb4 : (bits BinOp.and IntKind.i64 z 4 != 0) = true) (hb2 : (bits BinOp.and IntKind.i64 z 2 != 0) = true) (hb1 : (bits BinOp.and IntKind.i64 z 1 != 0) = b1) :
    Calls Tryd.prog 94 #[.pointer (some ⟨rb, 0, none⟩), .pointer (some ⟨fb, 0, none⟩), .int .i64 z] w (ReadR w rb fb (strmL true true b1 f s0)) := by
  have HS0 := Lib.hid hS
  clear hS
  obtain ⟨R, hR⟩ : ∃ R, R = strmL true true b1 f s0 := ⟨_, rfl⟩
  rw [← hR]
  have HR := Lib.hid hR
  clear hR
  go_enter Tryd.func94, Tryd.ntmps94
  go_wp2_with fail
  refine (int_any HS0.out.rd).mono ?_
  rintro e w1 ⟨rfl, hr, hM⟩
  have HS1 := Lib.hid (HS0.out.rd1 hM hr)
  clear hr hM
  obtain ⟨d0, d1, d2, d3, d4, d5, d6, d7⟩ := HS1.out.fr.cells
  have f1 := HS1.out.fr.blk.free 1
  go_wp2_with fail
  have HS2 := Lib.hid (HS1.out.setId s0.int.1)
  clear d0 d1 d2 d3 d4 d5 d6 d7 f1
  refine (int_any HS2.out.rd).mono ?_
  rintro e w3 ⟨rfl, hr, hM⟩
  have HS3 := Lib.hid (HS2.out.rd1 hM hr)
  clear hr hM
  obtain ⟨d0, d1, d2, d3, d4, d5, d6, d7⟩ := HS3.out.fr.cells
  have f2 := HS3.out.fr.blk.free 2
  go_wp2_with fail
  have HS4 := Lib.hid (HS3.out.setA s0.int.2.int.1)
  clear d0 d1 d2 d3 d4 d5 d6 d7 f2
  have hlen := HS4.out.rd.len
  have hw : IntKind.u64.wrap ((s0.int.2.int.2.l.length : Nat) : Int) = ((s0.int.2.int.2.l.length : Nat) : Int) := IntWalk.u64_in _ (by omega)
  refine (left_any HS4.out.rd).mono ?_
  rintro e w5 ⟨rfl, rfl⟩
  clear hlen
  generalize hln : s0.int.2.int.2.l.length = ln at *
  have HLN := Lib.hid hln
  clear hln
  go_wp2_with fail
  refine (int_any HS4.out.rd).mono ?_
  rintro e w6 ⟨rfl, hr, hM⟩
  have HS6 := Lib.hid (HS4.out.rd1 hM hr)
  clear hr hM
  go_wp2_with fail
  refine (bytes_any (s0.int.2.int.2.int.1) HS6.out.rd).mono ?_
  rintro e w7 ⟨v, rfl, ho, hr, hM⟩
  have HS7 := Lib.hid (HS6.out.rd1 hM hr)
  have HO := Lib.hid (ho.mono (B' := w.heap.size) HS6.out.mod.size)
  obtain ⟨a0, c0, rfl, _⟩ := byts_val ho.byts
  clear ho hr hM
  generalize hll : ((s0.int.2.int.2.int.2.bytes (s0.int.2.int.2.int.1)).1).length = ll at *
  clear hll
  obtain ⟨d0, d1, d2, d3, d4, d5, d6, d7⟩ := HS7.out.fr.cells
  have f5 := HS7.out.fr.blk.free 5
  have f6 := HS7.out.fr.blk.free 6
  go_wp2
  go_end0
  refine ⟨rfl, .slice a0 ll c0, vr, ?_⟩
  rw [HR.out]
  unfold strmL
  simp only [cond_true]
  exact (HS7.out.setF b1).setD ((HS7.out.own HO.out ((Mod.refl _ _).setCell (p := ⟨fb, 5, none⟩) (fun _ => .inr rfl) _)))
theorem strm_any {w : World} {rb fb : Nat} {s0 : RS} {f : Fr} {vd vr : Value} {t : Nat} {z : Int} (hz : (t : Int) = z) (ht : t ≤ 30) (hS : RdS w w rb fb s0 f vd vr) :
    Calls Tryd.prog 94 #[.pointer (some ⟨rb, 0, none⟩), .pointer (some ⟨fb, 0, none⟩), .int .i64 z] w (ReadR w rb fb (strmL (decide (t / 4 % 2 = 1)) (decide (t / 2 % 2 = 1)) (decide (t % 2 = 1)) f s0)) := by
  subst hz
  obtain ⟨h4, h2, h1⟩ := and_bit t ht
  generalize decide (t / 4 % 2 = 1) = b4 at *
  generalize decide (t / 2 % 2 = 1) = b2 at *
  cases b4 <;> cases b2
  · exact strm_00 hS h4 h2 h1
  · exact strm_01 hS h4 h2 h1
  · exact strm_10 hS h4 h2 h1
  · exact strm_11 hS h4 h2 h1
end Go.Proofs.YteegonadodmeeaaDoor
