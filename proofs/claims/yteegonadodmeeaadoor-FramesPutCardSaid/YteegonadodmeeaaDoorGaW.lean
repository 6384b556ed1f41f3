/- Readers of a Stream, of bytes 0, of a NewCid and of an Ack. -/
import Derived.Test.YteegonadodmeeaaDoorGaS
import Derived.Lib.SlBuf
import Derived.Test.YteegonadodmeeaaDoorGaE
namespace Go.Proofs.YteegonadodmeeaaDoor
open Go.RowKit

theorem Rdr.len {w : World} {rb : Nat} {s : RS} (h : Rdr w rb s) : s.l.length ≤ 140737488355328 := by obtain ⟨_, a, cap, _, _, _, _, h5, _⟩ := h; exact h5
set_option maxHeartbeats 4000000 in
set_option maxRecDepth 10000 in
theorem strm_00 {w : World} {rb fb : Nat} {s0 : RS} {f : Fr} {vd vr : Value} {z : Int} {b1 : Bool} (hS : RdS w w rb fb s0 f vd vr) (hb4 : (bits BinOp.and IntKind.i64 z 4 != 0) = false) (hb2 : (bits BinOp.and IntKind.i64 z 2 != 0) = false) (hb1 : (bits BinOp.and IntKind.i64 z 1 != 0) = b1) :
    Calls Tryd.prog 94 #[.pointer (some ⟨rb, 0, none⟩), .pointer (some ⟨fb, 0, none⟩), .int .i64 z] w (ReadR w rb fb (strmL false false b1 f s0)) := by
  have HS0 := Lib.hid hS
  clear hS
  obtain ⟨R, hR⟩ : ∃ R, R = strmL false false b1 f s0 := ⟨_, rfl⟩
  rw [← hR]
  have HR := Lib.hid hR
  clear hR
  go_enter Tryd.func94, Tryd.ntmps94
  go_wp2_with fail
  refine (int_any HS0.out.rd).mono ?_
  rintro e w1 ⟨rfl, hr, hM⟩
  have HS1 := Lib.hid (HS0.out.rd1 hM hr)
  clear hr hM
  obtain ⟨d0, d1, d2, d3, d4, d5, d6, d7⟩ := HS1.out.fr.cells
  have f1 := HS1.out.fr.blk.free 1
  go_wp2_with fail
  have HS2 := Lib.hid (HS1.out.setId s0.int.1)
  clear d0 d1 d2 d3 d4 d5 d6 d7 f1
  have hlen := HS2.out.rd.len
  have hw : IntKind.u64.wrap ((s0.int.2.l.length : Nat) : Int) = ((s0.int.2.l.length : Nat) : Int) := IntWalk.u64_in _ (by omega)
  refine (left_any HS2.out.rd).mono ?_
  rintro e w5 ⟨rfl, rfl⟩
  clear hlen
  generalize hln : s0.int.2.l.length = ln at *
  have HLN := Lib.hid hln
  clear hln
  go_wp2_with fail
  refine (bytes_any ln HS2.out.rd).mono ?_
  rintro e w7 ⟨v, rfl, ho, hr, hM⟩
  have HS7 := Lib.hid (HS2.out.rd1 hM hr)
  have HO := Lib.hid (ho.mono (B' := w.heap.size) HS2.out.mod.size)
  obtain ⟨a0, c0, rfl, _⟩ := byts_val ho.byts
  clear ho hr hM
  generalize hll : ((s0.int.2.bytes ln).1).length = ll at *
  clear hll
  obtain ⟨d0, d1, d2, d3, d4, d5, d6, d7⟩ := HS7.out.fr.cells
  have f5 := HS7.out.fr.blk.free 5
  have f6 := HS7.out.fr.blk.free 6
  go_wp2
  go_end0
  refine ⟨rfl, .slice a0 ll c0, vr, ?_⟩
  rw [HR.out]
  unfold strmL
  simp only [cond_false]
  rw [HLN.out]
  exact (HS7.out.setF b1).setD ((HS7.out.own HO.out ((Mod.refl _ _).setCell (p := ⟨fb, 5, none⟩) (fun _ => .inr rfl) _)))
set_option maxHeartbeats 4000000 in
set_option maxRecDepth 10000 in
theorem strm_01 {w : World} {rb fb : Nat} {s0 : RS} {f : Fr} {vd vr : Value} {z : Int} {b1 : Bool} (hS : RdS w w rb fb s0 f vd vr) (hb4 : (bits BinOp.and IntKind.i64 z 4 != 0) = false) (hb2 : (bits BinOp.and IntKind.i64 z 2 != 0) = true) (hb1 : (bits BinOp.and IntKind.i64 z 1 != 0) = b1) :
    Calls Tryd.prog 94 #[.pointer (some ⟨rb, 0, none⟩), .pointer (some ⟨fb, 0, none⟩), .int .i64 z] w (ReadR w rb fb (strmL false true b1 f s0)) := by
  have HS0 := Lib.hid hS
  clear hS
  obtain ⟨R, hR⟩ : ∃ R, R = strmL false true b1 f s0 := ⟨_, rfl⟩
  rw [← hR]
  have HR := Lib.hid hR
  clear hR
  go_enter Tryd.func94, Tryd.ntmps94
  go_wp2_with fail
  refine (int_any HS0.out.rd).mono ?_
  rintro e w1 ⟨rfl, hr, hM⟩
  have HS1 := Lib.hid (HS0.out.rd1 hM hr)
  clear hr hM
  obtain ⟨d0, d1, d2, d3, d4, d5, d6, d7⟩ := HS1.out.fr.cells
  have f1 := HS1.out.fr.blk.free 1
  go_wp2_with fail
  have HS2 := Lib.hid (HS1.out.setId s0.int.1)
  clear d0 d1 d2 d3 d4 d5 d6 d7 f1
  have hlen := HS2.out.rd.len
  have hw : IntKind.u64.wrap ((s0.int.2.l.length : Nat) : Int) = ((s0.int.2.l.length : Nat) : Int) := IntWalk.u64_in _ (by omega)
  refine (left_any HS2.out.rd).mono ?_
  rintro e w5 ⟨rfl, rfl⟩
  clear hlen
  generalize hln : s0.int.2.l.length = ln at *
  have HLN := Lib.hid hln
  clear hln
  go_wp2_with fail
  refine (int_any HS2.out.rd).mono ?_
  rintro e w6 ⟨rfl, hr, hM⟩
  have HS6 := Lib.hid (HS2.out.rd1 hM hr)
  clear hr hM
  go_wp2_with fail
  refine (bytes_any (s0.int.2.int.1) HS6.out.rd).mono ?_
  rintro e w7 ⟨v, rfl, ho, hr, hM⟩
  have HS7 := Lib.hid (HS6.out.rd1 hM hr)
  have HO := Lib.hid (ho.mono (B' := w.heap.size) HS6.out.mod.size)
  obtain ⟨a0, c0, rfl, _⟩ := byts_val ho.byts
  clear ho hr hM
  generalize hll : ((s0.int.2.int.2.bytes (s0.int.2.int.1)).1).length = ll at *
  clear hll
  obtain ⟨d0, d1, d2, d3, d4, d5, d6, d7⟩ := HS7.out.fr.cells
  have f5 := HS7.out.fr.blk.free 5
  have f6 := HS7.out.fr.blk.free 6
  go_wp2
  go_end0
  refine ⟨rfl, .slice a0 ll c0, vr, ?_⟩
  rw [HR.out]
  unfold strmL
  simp only [cond_true, cond_false]
  exact (HS7.out.setF b1).setD ((HS7.out.own HO.out ((Mod.refl _ _).setCell (p := ⟨fb, 5, none⟩) (fun _ => .inr rfl) _)))
set_option maxHeartbeats 4000000 in
set_option maxRecDepth 10000 in
theorem strm_10 {w : World} {rb fb : Nat} {s0 : RS} {f : Fr} {vd vr : Value} {z : Int} {b1 : Bool} (hS : RdS w w rb fb s0 f vd vr) (hb4 : (bits BinOp.and IntKind.i64 z 4 != 0) = true) (hb2 : (bits BinOp.and IntKind.i64 z 2 != 0) = false) (hb1 : (bits BinOp.and IntKind.i64 z 1 != 0) = b1) :
    Calls Tryd.prog 94 #[.pointer (some ⟨rb, 0, none⟩), .pointer (some ⟨fb, 0, none⟩), .int .i64 z] w (ReadR w rb fb (strmL true false b1 f s0)) := by
  have HS0 := Lib.hid hS
  clear hS
  obtain ⟨R, hR⟩ : ∃ R, R = strmL true false b1 f s0 := ⟨_, rfl⟩
  rw [← hR]
  have HR := Lib.hid hR
  clear hR
  go_enter Tryd.func94, Tryd.ntmps94
  go_wp2_with fail
  refine (int_any HS0.out.rd).mono ?_
  rintro e w1 ⟨rfl, hr, hM⟩
  have HS1 := Lib.hid (HS0.out.rd1 hM hr)
  clear hr hM
  obtain ⟨d0, d1, d2, d3, d4, d5, d6, d7⟩ := HS1.out.fr.cells
  have f1 := HS1.out.fr.blk.free 1
  go_wp2_with fail
  have HS2 := Lib.hid (HS1.out.setId s0.int.1)
  clear d0 d1 d2 d3 d4 d5 d6 d7 f1
  refine (int_any HS2.out.rd).mono ?_
  rintro e w3 ⟨rfl, hr, hM⟩
  have HS3 := Lib.hid (HS2.out.rd1 hM hr)
  clear hr hM
  obtain ⟨d0, d1, d2, d3, d4, d5, d6, d7⟩ := HS3.out.fr.cells
  have f2 := HS3.out.fr.blk.free 2
  go_wp2_with fail
  have HS4 := Lib.hid (HS3.out.setA s0.int.2.int.1)
  clear d0 d1 d2 d3 d4 d5 d6 d7 f2
  have hlen := HS4.out.rd.len
  have hw : IntKind.u64.wrap ((s0.int.2.int.2.l.length : Nat) : Int) = ((s0.int.2.int.2.l.length : Nat) : Int) := IntWalk.u64_in _ (by omega)
  refine (left_any HS4.out.rd).mono ?_
  rintro e w5 ⟨rfl, rfl⟩
  clear hlen
  generalize hln : s0.int.2.int.2.l.length = ln at *
  have HLN := Lib.hid hln
  clear hln
  go_wp2_with fail
  refine (bytes_any ln HS4.out.rd).mono ?_
  rintro e w7 ⟨v, rfl, ho, hr, hM⟩
  have HS7 := Lib.hid (HS4.out.rd1 hM hr)
  have HO := Lib.hid (ho.mono (B' := w.heap.size) HS4.out.mod.size)
  obtain ⟨a0, c0, rfl, _⟩ := byts_val ho.byts
  clear ho hr hM
  generalize hll : ((s0.int.2.int.2.bytes ln).1).length = ll at *
  clear hll
  obtain ⟨d0, d1, d2, d3, d4, d5, d6, d7⟩ := HS7.out.fr.cells
  have f5 := HS7.out.fr.blk.free 5
  have f6 := HS7.out.fr.blk.free 6
  go_wp2
  go_end0
  refine ⟨rfl, .slice a0 ll c0, vr, ?_⟩
  rw [HR.out]
  unfold strmL
  simp only [cond_true, cond_false]
  rw [HLN.out]
  exact (HS7.out.setF b1).setD ((HS7.out.own HO.out ((Mod.refl _ _).setCell (p := ⟨fb, 5, none⟩) (fun _ => .inr rfl) _)))
set_option maxHeartbeats 4000000 in
set_option maxRecDepth 10000 in
theorem strm_11 {w : World} {rb fb : Nat} {s0 : RS} {f : Fr} {vd vr : Value} {z : Int} {b1 : Bool} (hS : RdS w w rb fb s0 f vd vr) (hb4 : (bits BinOp.and IntKind.i64 z 4 != 0) = true) (hb2 : (bits BinOp.and IntKind.i64 z 2 != 0) = true) (hb1 : (bits BinOp.and IntKind.i64 z 1 != 0) = b1) :
    Calls Tryd.prog 94 #[.pointer (some ⟨rb, 0, none⟩), .pointer (some ⟨fb, 0, none⟩), .int .i64 z] w (ReadR w rb fb (strmL true true b1 f s0)) := by
  have HS0 := Lib.hid hS
  clear hS
  obtain ⟨R, hR⟩ : ∃ R, R = strmL true true b1 f s0 := ⟨_, rfl⟩
  rw [← hR]
  have HR := Lib.hid hR
  clear hR
  go_enter Tryd.func94, Tryd.ntmps94
  go_wp2_with fail
  refine (int_any HS0.out.rd).mono ?_
  rintro e w1 ⟨rfl, hr, hM⟩
  have HS1 := Lib.hid (HS0.out.rd1 hM hr)
  clear hr hM
  obtain ⟨d0, d1, d2, d3, d4, d5, d6, d7⟩ := HS1.out.fr.cells
  have f1 := HS1.out.fr.blk.free 1
  go_wp2_with fail
  have HS2 := Lib.hid (HS1.out.setId s0.int.1)
  clear d0 d1 d2 d3 d4 d5 d6 d7 f1
  refine (int_any HS2.out.rd).mono ?_
  rintro e w3 ⟨rfl, hr, hM⟩
  have HS3 := Lib.hid (HS2.out.rd1 hM hr)
  clear hr hM
  obtain ⟨d0, d1, d2, d3, d4, d5, d6, d7⟩ := HS3.out.fr.cells
  have f2 := HS3.out.fr.blk.free 2
  go_wp2_with fail
  have HS4 := Lib.hid (HS3.out.setA s0.int.2.int.1)
  clear d0 d1 d2 d3 d4 d5 d6 d7 f2
  have hlen := HS4.out.rd.len
  have hw : IntKind.u64.wrap ((s0.int.2.int.2.l.length : Nat) : Int) = ((s0.int.2.int.2.l.length : Nat) : Int) := IntWalk.u64_in _ (by omega)
  refine (left_any HS4.out.rd).mono ?_
  rintro e w5 ⟨rfl, rfl⟩
  clear hlen
  generalize hln : s0.int.2.int.2.l.length = ln at *
  have HLN := Lib.hid hln
  clear hln
  go_wp2_with fail
  refine (int_any HS4.out.rd).mono ?_
  rintro e w6 ⟨rfl, hr, hM⟩
  have HS6 := Lib.hid (HS4.out.rd1 hM hr)
  clear hr hM
  go_wp2_with fail
  refine (bytes_any (s0.int.2.int.2.int.1) HS6.out.rd).mono ?_
  rintro e w7 ⟨v, rfl, ho, hr, hM⟩
  have HS7 := Lib.hid (HS6.out.rd1 hM hr)
  have HO := Lib.hid (ho.mono (B' := w.heap.size) HS6.out.mod.size)
  obtain ⟨a0, c0, rfl, _⟩ := byts_val ho.byts
  clear ho hr hM
  generalize hll : ((s0.int.2.int.2.int.2.bytes (s0.int.2.int.2.int.1)).1).length = ll at *
  clear hll
  obtain ⟨d0, d1, d2, d3, d4, d5, d6, d7⟩ := HS7.out.fr.cells
  have f5 := HS7.out.fr.blk.free 5
  have f6 := HS7.out.fr.blk.free 6
  go_wp2
  go_end0
  refine ⟨rfl, .slice a0 ll c0, vr, ?_⟩
  rw [HR.out]
  unfold strmL
  simp only [cond_true]
  exact (HS7.out.setF b1).setD ((HS7.out.own HO.out ((Mod.refl _ _).setCell (p := ⟨fb, 5, none⟩) (fun _ => .inr rfl) _)))
theorem strm_any {w : World} {rb fb : Nat} {s0 : RS} {f : Fr} {vd vr : Value} {t : Nat} {z : Int} (hz : (t : Int) = z) (ht : t ≤ 30) (hS : RdS w w rb fb s0 f vd vr) :
    Calls Tryd.prog 94 #[.pointer (some ⟨rb, 0, none⟩), .pointer (some ⟨fb, 0, none⟩), .int .i64 z] w (ReadR w rb fb (strmL (decide (t / 4 % 2 = 1)) (decide (t / 2 % 2 = 1)) (decide (t % 2 = 1)) f s0)) := by
  subst hz
  obtain ⟨h4, h2, h1⟩ := and_bit t ht
  generalize decide (t / 4 % 2 = 1) = b4 at *
  generalize decide (t / 2 % 2 = 1) = b2 at *
  cases b4 <;> cases b2
  · exact strm_00 hS h4 h2 h1
  · exact strm_01 hS h4 h2 h1
  · exact strm_10 hS h4 h2 h1
  · exact strm_11 hS h4 h2 h1
end Go.Proofs.YteegonadodmeeaaDoor

namespace Go.Proofs.YteegonadodmeeaaDoor
open Go.RowKit

theorem sizeRd (a b : Value) : (Tryd.prog.info? 76).map (·.size) = some (#[a, b] : Array Value).size := by show _ = some 2; kernel_rfl
def zeroAt (l : List UInt8) : Bool := decide (l.head? = some 0)
theorem byte_head {c : UInt8} {l : List UInt8} : RS.byte ⟨c :: l, 0⟩ = (c, ⟨l, 0⟩) := by simp [RS.byte, RS.bytes]
set_option maxHeartbeats 2000000 in
set_option maxRecDepth 10000 in
theorem peek_any {w : World} {rb : Nat} {s : RS} (h : Rdr w rb s) : Calls Tryd.prog 100 #[.pointer (some ⟨rb, 0, none⟩)] w fun e w' => e = .returned (.bool (zeroAt s.l)) ∧ Mod (fun _ => False) w w' := by
  have HR := Lib.hid h
  obtain ⟨h0, a, cap, hb, h3, h4, h5, h6, h7⟩ := h
  have HB := Lib.hid hb
  have HCOPY : Hid (∀ X cb, Mod (fun _ => False) w X → Blk X cb #[.slice a s.l.length cap, .int .i64 s.e] 76 → Rdr X cb s) := fun X cb hX hc => ⟨h0, a, cap, hc, h3, h4, h5, h6, fun j x hj => by
    obtain ⟨bb, off, cs, rfl, hbb, hcs⟩ := h7 j x hj
    exact ⟨bb, off, cs, rfl, hX.blk hbb (fun h => h), hcs⟩⟩
  cases hl : s.l with
  | nil =>
    have hlen : s.l.length = 0 := by rw [hl]; rfl
    have HLEN := Lib.hid hlen
    rw [show zeroAt [] = false from rfl]
    clear hb h0 h3 h4 h5 h6 h7 hl hlen HCOPY
    go_enter Tryd.func100, Tryd.ntmps100
    go_wp2_with (first
      | ((with_reducible refine wpList_load_blk ?_ 76 (.tmp 5) ?_ rb ?_ #[.slice a s.l.length cap, .int .i64 s.e] 76 _ HB.out Tryd.underlying76 ?_ (sizeRd _ _) ?_); (· exact rfl); (· exact rfl); (· exact rfl); (· exact rfl))
      | ((with_reducible refine wpList_store_blk ?_ 76 (.tmp 3) (.tmp 6) ?_ w.heap.size ?_ #[.slice none 0 0, .int .i64 0] #[.slice a s.l.length cap, .int .i64 s.e] ?_ 76 (Blk.new _ _ _) (sizeRd _ _) ?_ ?_ ?_); (· exact rfl); (· exact rfl); (· exact rfl); (· exact rfl); (· exact rfl); (· intro v hv; simp at hv; rcases hv with rfl | rfl <;> rfl); intro wx hBx hMx; have HMx := Lib.hid (((Mod.refl (fun _ => False) w).alloc _).trans' hMx (fun i hi e => by omega)); clear hBx hMx)
      | fail)
    refine (left_any (HR.out.kept HMx.out (fun _ _ h => h))).mono ?_
    rintro e w2 ⟨rfl, rfl⟩
    rw [HLEN.out]
    go_wp2_with fail
    go_ret
    exact ⟨rfl, HMx.out⟩
  | cons c l =>
    have he : s.e = 0 := by
      apply Classical.byContradiction
      intro h
      rw [h0 h] at hl
      cases hl
    have hse : s = ⟨c :: l, 0⟩ := by cases s; simp_all
    have hby : s.byte = (c, ⟨l, 0⟩) := by rw [hse]; exact byte_head
    have HBY := Lib.hid hby
    have hpos : 0 < s.l.length := by rw [hl]; simp
    have hposi : (0 : Int) < s.l.length := by omega
    rw [show zeroAt (c :: l) = decide ((c.toNat : Int) = 0) by
      unfold zeroAt
      rw [Bool.eq_iff_iff]
      simp only [List.head?_cons, Option.some.injEq, decide_eq_true_eq]
      constructor
      · rintro rfl; rfl
      · intro h; exact UInt8.toNat_inj.1 (by simpa using h)]
    clear hb h0 h3 h4 h5 h6 h7 hl he hse hby
    go_enter Tryd.func100, Tryd.ntmps100
    go_wp2_with (first
      | ((with_reducible refine wpList_load_blk ?_ 76 (.tmp 5) ?_ rb ?_ #[.slice a s.l.length cap, .int .i64 s.e] 76 _ HB.out Tryd.underlying76 ?_ (sizeRd _ _) ?_); (· exact rfl); (· exact rfl); (· exact rfl); (· exact rfl))
      | ((with_reducible refine wpList_store_blk ?_ 76 (.tmp 3) (.tmp 6) ?_ w.heap.size ?_ #[.slice none 0 0, .int .i64 0] #[.slice a s.l.length cap, .int .i64 s.e] ?_ 76 (Blk.new _ _ _) (sizeRd _ _) ?_ ?_ ?_); (· exact rfl); (· exact rfl); (· exact rfl); (· exact rfl); (· exact rfl); (· intro v hv; simp at hv; rcases hv with rfl | rfl <;> rfl); intro wx hBx hMx; have HMx := Lib.hid (((Mod.refl (fun _ => False) w).alloc _).trans' hMx (fun i hi e => by omega)); have HBx := Lib.hid hBx; clear hBx hMx)
      | fail)
    refine (left_any (HR.out.kept HMx.out (fun _ _ h => h))).mono ?_
    rintro e w2 ⟨rfl, rfl⟩
    have HRC := Lib.hid (HCOPY.out wx w.heap.size HMx.out HBx.out)
    clear HCOPY
    generalize s.l.length = ln at *
    go_wp2_with fail
    refine (byte_any HRC.out).mono ?_
    rintro e w3 ⟨rfl, hr, hM⟩
    rw [HBY.out]
    have HM3 : Hid (Mod (fun _ => False) w w3) := HMx.out.trans' hM (fun i hi e => by omega)
    clear hr hM
    go_wp2_with fail
    all_goals go_ret
    all_goals refine ⟨ret_bool ?_, HM3.out⟩
    all_goals (rw [Bool.eq_iff_iff]; simp_all)
theorem zeroN_le : ∀ (n : Nat) (l : List UInt8), zeroN n l ≤ n ∧ zeroN n l ≤ l.length
  | 0, l => by simp [zeroN]
  | n + 1, [] => by simp [zeroN]
  | n + 1, c :: l => by
    have := zeroN_le n l
    unfold zeroN
    split
    · simp; omega
    · simp
theorem zeroN_step {n : Nat} {l : List UInt8} (h : zeroAt l = true) : zeroN (n + 1) l = zeroN n (l.drop 1) + 1 ∧ ∃ t, l = 0 :: t := by
  unfold zeroAt at h
  cases l with
  | nil => simp at h
  | cons c t =>
    simp at h
    subst h
    exact ⟨by simp [zeroN], t, rfl⟩
theorem zeroN_stop {n : Nat} {l : List UInt8} (h : zeroAt l = false) : zeroN n l = 0 := by
  unfold zeroAt at h
  cases n with
  | zero => rfl
  | succ n =>
    cases l with
    | nil => rfl
    | cons c t =>
      simp at h
      unfold zeroN
      rw [if_neg h]
/-- What zeros leaves. -/
def ZerosR (w : World) (rb : Nat) (s : RS) : Ending → World → Prop := fun e w' => e = .returned (.int .u64 (zeroN 1199 s.l : Int)) ∧ Rdr w' rb ⟨s.l.drop (zeroN 1199 s.l), s.e⟩ ∧ Mod (fun k => k = rb) w w'
theorem RS.drop0 (s : RS) : (⟨s.l.drop 0, s.e⟩ : RS) = s := by cases s; rfl
set_option maxHeartbeats 4000000 in
set_option maxRecDepth 10000 in
theorem zeros_any {w : World} {rb : Nat} {s : RS} (h : Rdr w rb s) : Calls Tryd.prog 95 #[.pointer (some ⟨rb, 0, none⟩)] w (ZerosR w rb s) := by
  have HR := Lib.hid h
  clear h
  go_enter Tryd.func95, Tryd.ntmps95
  go_wp2
  go_loopw [3] (fun s3 wr => ∃ k : Nat, k ≤ 1199 ∧ s3 = .int .u64 k ∧ Hid (zeroN 1199 s.l = k + zeroN (1199 - k) (s.l.drop k) ∧ Rdr wr rb ⟨s.l.drop k, s.e⟩ ∧ Mod (fun k => k = rb) w wr)) (fun s3 _ => 1199 - (intOf s3).toNat)
  case atStart => exact ⟨0, Nat.zero_le _, rfl, ⟨by simp, by rw [RS.drop0]; exact HR.out, Mod.refl _ _⟩⟩
  case round =>
    obtain ⟨k, hk, rfl, HJ⟩ := hrel
    have hki : (k : Int) ≤ 1199 := by omega
    by_cases hlt : (k : Int) < 1199
    · cases hz : zeroAt (s.l.drop k)
      · have HZ := Lib.hid hz
        clear hz
        go_wp2_with fail
        refine (peek_any HJ.out.2.1).mono ?_
        rintro e w2 ⟨rfl, hM2⟩
        rw [HZ.out]
        have HM2 := Lib.hid hM2
        clear hM2
        have HN : Hid (zeroN 1199 s.l = k) := by show _ = _; rw [HJ.out.1, zeroN_stop HZ.out]; rfl
        go_wp2_with fail
        go_ret
        refine ⟨by rw [HN.out]; rfl, by rw [HN.out]; exact HJ.out.2.1.kept HM2.out (fun _ _ h => h), HJ.out.2.2.trans (HM2.out.mono (fun _ _ h => h.elim))⟩
      · have HZ := Lib.hid hz
        clear hz
        go_wp2_with fail
        refine (peek_any HJ.out.2.1).mono ?_
        rintro e w2 ⟨rfl, hM2⟩
        rw [HZ.out]
        have HM2 := Lib.hid hM2
        clear hM2
        go_wp2_with fail
        refine (byte_any (HJ.out.2.1.kept HM2.out (fun _ _ h => h))).mono ?_
        rintro e w3 ⟨rfl, hr3, hM3⟩
        obtain ⟨hst, t, ht⟩ := zeroN_step (n := 1199 - (k + 1)) HZ.out
        have he : s.e = 0 := by
          obtain ⟨h0, _⟩ := HJ.out.2.1
          apply Classical.byContradiction
          intro h
          have := h0 h
          rw [ht] at this
          cases this
        have hdr : s.l.drop (k + 1) = t := by rw [← List.drop_drop, ht]; rfl
        have hr3' : Rdr w3 rb ⟨s.l.drop (k + 1), s.e⟩ := by
          have e1 : (RS.byte ⟨s.l.drop k, s.e⟩).2 = ⟨t, 0⟩ := by rw [ht, he, byte_head]
          rw [e1] at hr3
          rw [hdr, he]
          exact hr3
        have hN : zeroN 1199 s.l = (k + 1) + zeroN (1199 - (k + 1)) (s.l.drop (k + 1)) := by
          rw [HJ.out.1, show 1199 - k = 1199 - (k + 1) + 1 by omega, hst, List.drop_drop]
          omega
        have HNEW : Hid (zeroN 1199 s.l = (k + 1) + zeroN (1199 - (k + 1)) (s.l.drop (k + 1)) ∧ Rdr w3 rb ⟨s.l.drop (k + 1), s.e⟩ ∧ Mod (fun k => k = rb) w w3) := ⟨hN, hr3', (HJ.out.2.2.trans (HM2.out.mono (fun _ _ h => h.elim))).trans hM3⟩
        generalize hbv : ((RS.byte ⟨s.l.drop k, s.e⟩).1.toNat : Int) = bvv at *
        clear hbv hst ht he hdr hr3 hr3' hN hM3
        go_wp2_with fail
        go_roundw
        case rel => exact ⟨k + 1, by omega, by go_num, HNEW⟩
        case measure => simp [intOf]; omega
    · have hk9 : k = 1199 := by omega
      have HN : Hid (zeroN 1199 s.l = k) := by show _ = _; rw [HJ.out.1, hk9]; simp [zeroN]
      have hd : decide ((k : Int) < 1199) = false := decide_eq_false hlt
      clear hk9
      go_wp2_with fail
      go_ret
      exact ⟨by rw [HN.out]; rfl, by rw [HN.out]; exact HJ.out.2.1, HJ.out.2.2⟩
end Go.Proofs.YteegonadodmeeaaDoor

namespace Go.Proofs.YteegonadodmeeaaDoor
open Go.RowKit

theorem copy_any {w : World} {g o dLen dCap : Nat} {v : Value} {l : List UInt8} {C : Array Value} {T : TypeId} (ty : TypeId) (hB : Blk w g C T) (hv : Byts w v l) (hfit : o + dLen ≤ C.size) :
    ∃ w' n, (Builtin.copy_ #[23, 23] ty #[.slice (some ⟨g, o, none⟩) dLen dCap, v]).run Tryd.prog w = .ok (.int .i64 n) w' ∧ Mod (fun k => k = g) w w' ∧ Blk w' g (C.toList.take o ++ (l.take dLen).map bv ++ C.toList.drop (o + (l.take dLen).length)).toArray T := by
  have hs : (Tryd.prog.info? 5).map (·.size) = some 1 := by
    obtain ⟨i0, hi, hz0, hz1, hz2⟩ := info_parts Tryd.info5
    rw [hi]; simp [hz1]
  by_cases hl : l = []
  · subst hl
    obtain ⟨p, cap, rfl, _, _, hn⟩ := byts_val hv
    refine ⟨w, 0, run_copy_none (P := Tryd.prog) w 23 23 ty 5 _ p _ _ 0 cap Tryd.underlying23 hs (by simp), Mod.refl _ _, ?_⟩
    simpa using hB
  · obtain ⟨b, off, cap, rfl, h1, h2, h3⟩ := byts_addr hv hl
    have hrun := run_copy_row (P := Tryd.prog) w 23 23 ty 5 g o dLen dCap ⟨b, off, none⟩ l.length cap C T ((l.take dLen).map bv) Tryd.underlying23 hs hB
      (by rw [List.length_map, List.length_take, Nat.min_comm])
      (fun j u hu => by
        rw [List.getElem?_map] at hu
        obtain ⟨x, hx, rfl⟩ := Option.map_eq_some_iff.1 hu
        rw [List.getElem?_take] at hx
        split at hx
        · rw [Addr.add_lit]; exact h3 j x hx
        · simp at hx) (by rw [List.length_map, List.length_take]; omega) (bv_one _)
    rw [List.length_map] at hrun
    refine ⟨_, _, hrun, ⟨rfl, rfl, rfl, by simp [World.setRow], fun k _ hk => setRow_other w g k _ hk⟩, ?_⟩
    have := setRow_heap w g C (C.toList.take o ++ (l.take dLen).map bv ++ C.toList.drop (o + ((l.take dLen).map bv).length)).toArray T _ hB
    rw [List.length_map] at this
    exact this
theorem fr_tok16 (f : Fr) (vd vr : Value) (l : List UInt8) (hp : f.t.length = 16) (hl : l.length = 16) : ((frC f vd vr).toList.take 8 ++ (l.take 16).map bv ++ (frC f vd vr).toList.drop (8 + (l.take 16).length)).toArray = frC (f.setT l) vd vr := by
  apply Array.toList_inj.1
  have e : l.take 16 = l := List.take_of_length_le (by omega)
  rw [e, List.drop_of_length_le (by simp [frC, frL, hp, hl])]
  simp [frC, frL, Fr.setT]
theorem fr_tok0 (f : Fr) (vd vr : Value) : ((frC f vd vr).toList.take 8 ++ (([] : List UInt8).take 16).map bv ++ (frC f vd vr).toList.drop (8 + (([] : List UInt8).take 16).length)).toArray = frC f vd vr := by
  apply Array.toList_inj.1
  simp
def tokOr (f : Fr) (l : List UInt8) : Fr := if l.length = 16 then f.setT l else f
theorem bytes16 (s : RS) : (s.bytes 16).1.length = 16 ∨ (s.bytes 16).1 = [] := by
  unfold RS.bytes
  split
  · right; rfl
  · split
    · right; rfl
    · left; simp; omega
theorem tokOr_f (f : Fr) (l : List UInt8) : (tokOr f l).d = f.d ∧ (tokOr f l).rs = f.rs := by unfold tokOr; split <;> exact ⟨rfl, rfl⟩
theorem RdS.setTok {w0 w w' : World} {rb fb : Nat} {s : RS} {f : Fr} {vd vr : Value} (h : RdS w0 w rb fb s f vd vr) {l : List UInt8} (hl : l.length = 16 ∨ l = []) (hM : Mod (fun k => k = fb) w w') (hb : Blk w' fb ((frC f vd vr).toList.take 8 ++ (l.take 16).map bv ++ (frC f vd vr).toList.drop (8 + (l.take 16).length)).toArray 27) : RdS w0 w' rb fb s (tokOr f l) vd vr := by
  have hfr : FrB w' fb (tokOr f l) vd vr := by
    unfold tokOr
    rcases hl with hl | rfl
    · rw [if_pos hl]
      rw [fr_tok16 f vd vr l h.fr.len hl] at hb
      exact ⟨hb, hl⟩
    · rw [fr_tok0] at hb
      exact ⟨hb, h.fr.len⟩
  refine ⟨hM.rdr h.rd (fun e => h.ne e.symm) (fun b cs hbb e => ?_), hfr, ?_, ?_, h.mod.trans (hM.mono (fun _ _ e => .inr e)), h.rl, h.fl, h.ne⟩
  · subst e
    exact h.fr.blk.ne hbb (by decide) rfl
  · rw [(tokOr_f f l).1]
    exact hM.own h.od (fun g hg e => by have := (World.ownsRow.lt h.od g hg).1; have := h.fl; omega)
  · rw [(tokOr_f f l).2]
    exact h.or.kept hM (fun g hg e => by have := (World.ownsRow.lt h.or g hg).1; have := h.fl; omega)
/-- A NewCid behind its type. -/
def cidR (f : Fr) (s : RS) : Fr × RS :=
  let b := s.int.2.int.2.byte
  let d := b.2.bytes b.1.toNat
  let t := d.2.bytes 16
  (tokOr (((f.setId s.int.1).setA s.int.2.int.1).setD d.1) t.1, t.2)
set_option maxHeartbeats 4000000 in
set_option maxRecDepth 10000 in
theorem read35 : Reads 81 cidR := by
  intro w rb fb s0 f vd vr hS hl
  have HS0 := Lib.hid hS
  clear hS hl
  obtain ⟨R, hR⟩ : ∃ R, R = cidR f s0 := ⟨_, rfl⟩
  rw [← hR]
  have HR := Lib.hid hR
  clear hR
  go_enter Tryd.func81, Tryd.ntmps81
  go_wp2_with fail
  refine (int_any HS0.out.rd).mono ?_
  rintro e w1 ⟨rfl, hr, hM⟩
  have HS1 := Lib.hid (HS0.out.rd1 hM hr)
  clear hr hM
  go_wp2_with fail
  refine (int_any HS1.out.rd).mono ?_
  rintro e w2 ⟨rfl, hr, hM⟩
  have HS2 := Lib.hid (HS1.out.rd1 hM hr)
  clear hr hM
  go_wp2_with fail
  refine (byte_any HS2.out.rd).mono ?_
  rintro e w3 ⟨rfl, hr, hM⟩
  have HS3 := Lib.hid (HS2.out.rd1 hM hr)
  clear hr hM
  have hx := (s0.int.2.int.2.byte.1).toNat_lt
  have hw : IntKind.u64.wrap ((s0.int.2.int.2.byte.1.toNat : Nat) : Int) = ((s0.int.2.int.2.byte.1.toNat : Nat) : Int) := IntWalk.u64_in _ (by omega)
  generalize hbn : s0.int.2.int.2.byte.1.toNat = bn at *
  have HBN := Lib.hid hbn
  clear hbn hx
  go_wp2_with fail
  refine (bytes_any bn HS3.out.rd).mono ?_
  rintro e w4 ⟨v, rfl, ho, hr, hM⟩
  have HS4 := Lib.hid (HS3.out.rd1 hM hr)
  have HO := Lib.hid (ho.mono (B' := w.heap.size) HS3.out.mod.size)
  obtain ⟨a0, c0, rfl, _⟩ := byts_val ho.byts
  clear ho hr hM
  generalize hll : ((s0.int.2.int.2.byte.2.bytes bn).1).length = ll at *
  clear hll
  obtain ⟨d0, d1, d2, d3, d4, d5, d6, d7⟩ := HS4.out.fr.cells
  have f1 := HS4.out.fr.blk.free 1
  have f2 := HS4.out.fr.blk.free 2
  have f6 := HS4.out.fr.blk.free 6
  go_wp2_with fail
  have HS5 := Lib.hid (((HS4.out.setId s0.int.1).setA s0.int.2.int.1).setD ((HS4.out.setId s0.int.1).own (HS4.out.own HO.out ((Mod.refl _ _).setCell (p := ⟨fb, _, none⟩) (fun _ => .inr rfl) _)) ((Mod.refl _ _).setCell (p := ⟨fb, _, none⟩) (fun _ => .inr rfl) _)))
  clear d0 d1 d2 d3 d4 d5 d6 d7 f1 f2 f6 HO hw
  generalize ((w4.setCell ⟨fb, 1, none⟩ (.int .u64 (s0.int.1 : Int))).setCell ⟨fb, 2, none⟩ (.int .u64 (s0.int.2.int.1 : Int))).setCell ⟨fb, 6, none⟩ (.slice a0 ll c0) = w5 at *
  generalize hg5 : (((f.setId s0.int.1).setA s0.int.2.int.1).setD (s0.int.2.int.2.byte.2.bytes bn).1) = f5 at *
  have HG5 := Lib.hid hg5
  clear hg5
  obtain ⟨t, ht⟩ : ∃ t, t = (s0.int.2.int.2.byte.2.bytes bn).2.bytes 16 := ⟨_, rfl⟩
  have HBY := Lib.hid (fun X (h : RdS w X rb fb (s0.int.2.int.2.byte.2.bytes bn).2 f5 (.slice a0 ll c0) vr) => bytes_any 16 h.rd)
  rw [← ht] at HBY
  have HT := Lib.hid ht
  have H16 := Lib.hid (bytes16 (s0.int.2.int.2.byte.2.bytes bn).2)
  rw [← ht] at H16
  clear ht
  generalize hs5 : (s0.int.2.int.2.byte.2.bytes bn).2 = s5 at *
  have HS55 := Lib.hid hs5
  clear hs5
  refine wp_region_held_drew (S := fun X => Mod (fun j => j = rb ∨ j = fb) w X) (by kernel_rfl) HS5.out.mod.drew (fun hS => ?_)
  refine takeH (i := 0) (v := .pointer (some ⟨fb, 0, none⟩)) (some 22) rfl rfl (by kernel_rfl) (by kernel_rfl) (by kernel_rfl) (fun _ _ _ h => h) (Or.inl ⟨by rfl, fun X hX => ?_⟩) hS ?_
  · go_simp
  (try go_frame)
  refine takeH (i := 1) (v := .pointer (some ⟨fb, 0, none⟩)) (some 23) rfl rfl (by kernel_rfl) (by kernel_rfl) (by kernel_rfl) (fun _ _ _ h => h) (Or.inl ⟨by rfl, fun X hX => ?_⟩) hS ?_
  · go_simp
  (try go_frame)
  refine takeH (i := 2) (v := .pointer (some ⟨fb, 8, none⟩)) (some 24) rfl rfl (by kernel_rfl) (by kernel_rfl) (by kernel_rfl) (fun _ _ _ h => h) (Or.inl ⟨by rfl, fun X hX => ?_⟩) hS ?_
  · go_simp
  (try go_frame)
  refine takeH (i := 3) (v := .slice (some ⟨fb, 8, none⟩) 16 16) (some 25) rfl rfl (by kernel_rfl) (by kernel_rfl) (by kernel_rfl) (fun _ _ _ h => h) (Or.inl ⟨by rfl, fun X hX => ?_⟩) hS ?_
  · go_simp
  (try go_frame)
  refine takeH (i := 4) (v := .pointer (some ⟨rb, 0, none⟩)) (some 26) rfl rfl (by kernel_rfl) (by kernel_rfl) (by kernel_rfl) (fun _ _ _ h => h) (Or.inl ⟨by rfl, fun X hX => ?_⟩) hS ?_
  · go_simp
  (try go_frame)
  have hd5 : RdS w w5.drew rb fb s5 f5 (.slice a0 ll c0) vr := HS5.out.rd1 (Mod.refl _ _).drew (HS5.out.rd.kept (S := fun _ => False) ((Mod.refl _ _).drew) (fun _ _ h => h))
  refine wpAnyH_ready (rs := [5]) (by kernel_rfl) (by simp) ?_
  refine AllReadyH.cons rfl (fun K hK => ?_) AllReadyH.nil
  go_simp
  refine (HBY.out _ hd5).mono ?_
  rintro e w6 ⟨v, rfl, ho, hr, hM⟩
  have hS6 := hd5.rd1 hM hr
  have hcp := copy_any 3 (dLen := 16) (dCap := 16) hS6.fr.blk ho.byts (o := 8) (by rw [frC_size _ _ _ hS6.fr.len]; omega)
  obtain ⟨w7, n7, hrun, hM7, hB7⟩ := hcp
  have hS7 := hS6.setTok H16.out hM7 hB7
  obtain ⟨a1, c1, rfl, _⟩ := byts_val ho.byts
  refine hK.out _ _ hS6.mod (fun hS => ?_)
  clear hK K
  refine wpAnyH_ready (rs := [6]) (by kernel_rfl) (by simp) ?_
  refine AllReadyH.cons rfl (fun K hK => ?_) AllReadyH.nil
  go_simp
  refine hK.out _ _ hS7.mod (fun hS => ?_)
  clear hK K
  refine wpAnyH_done (by kernel_rfl) ?_ _
  have HS7 := Lib.hid hS7
  clear hS7 hS6 hrun hM7 hB7 ho hr hM hd5 hS
  go_wp2
  go_end0
  refine ⟨rfl, .slice a0 ll c0, vr, ?_⟩
  rw [HR.out]
  unfold cidR
  simp only [HBN.out, HS55.out]
  rw [← HG5.out, HT.out] at HS7
  exact HS7.out
end Go.Proofs.YteegonadodmeeaaDoor

namespace Go.Proofs.YteegonadodmeeaaDoor
open Go.RowKit

theorem OwnR.apart {w : World} {B b : Nat} {v : Value} {l : List (Nat × Nat)} {C : Array Value} {T : TypeId} (h : OwnR w B v l) (hb : Blk w b C T) (ht : T ≠ 44) : ¬ v.ownBlock = some b := by
  intro e
  rcases h.2 with ⟨rfl, _⟩ | ⟨g, cap, cur, rfl, _, hg, _⟩
  · simp [Value.ownBlock] at e
  · simp [Value.ownBlock] at e
    subst e
    exact Blk.ne hb (show Blk w g cur 44 from hg) ht rfl
theorem infoRg : (Tryd.prog.info? 44).map (fun i => (i.zero, i.size, i.bytes)) = some (some (.agg #[.int .u64 0, .int .u64 0]), 2, 16) := by kernel_rfl
theorem rg_one (w : World) {a b : Nat} {x y : Int} (h1 : (a : Int) = x) (h2 : (b : Int) = y) : RgV (w.alloc (.cells #[.int .u64 x, .int .u64 y] 44)) (.slice (some ⟨w.heap.size, 0, none⟩) 1 1) [(a, b)] := by
  subst h1 h2
  have hb := Blk.new w #[.int .u64 (a : Int), .int .u64 (b : Int)] 44
  refine ⟨by simp [rgC], some ⟨w.heap.size, 0, none⟩, 1, rfl, Nat.le_refl _, by decide, fun e => by simp at e, fun j u hu => ⟨w.heap.size, 0, rfl, ?_⟩⟩
  simp only [List.flatMap_cons, List.flatMap_nil, List.append_nil, rgC] at hu
  rw [Nat.zero_add]
  match j, hu with
  | 0, hu => simp at hu; subst hu; exact hb.cellAt 0 rfl
  | 1, hu => simp at hu; subst hu; exact hb.cellAt 1 rfl
  | (_ + 2), hu => simp at hu
theorem own_one (w : World) (B : Nat) (hB : B ≤ w.heap.size) {a b : Nat} {x y : Int} (h1 : (a : Int) = x) (h2 : (b : Int) = y) : OwnR (w.alloc (.cells #[.int .u64 x, .int .u64 y] 44)) B (.slice (some ⟨w.heap.size, 0, none⟩) 1 1) [(a, b)] := by
  subst h1 h2
  refine ⟨by simp [rgC], .inr ⟨w.heap.size, 1, _, rfl, hB, heap_alloc_new w _, Nat.le_refl _, by decide, ?_, ?_⟩⟩
  · rfl
  · simp [rgC]
theorem wpList_append_rg {w : World} {ops : Array Oper} {rest : List Oper} {o : Oper} {a : Act} {Q : Exit → Act → World → Prop} (hgd : o.guard = none) (s x : Operand)
    (ho : o.op = .call { callee := .builtin .append, args := #[s, x], argTypes := #[24, 24] })
    (v : Value) (l : List (Nat × Nat)) (B : Nat) (hs : a.eval s = v) (hown : OwnR w B v l)
    (sv : Value) (new : Nat × Nat) (hx : a.eval x = sv) (hsl : RgV w sv [new]) (n : Nat) (hln : l.length = n) (hn : n ≤ 100000) (hbase : B ≤ w.heap.size)
    (h : ∀ ap cp w', OwnR w' B (.slice ap (n + 1) cp) (l ++ [new]) → w.grownBy w' v.ownBlock → wpList Tryd.prog ops Q rest (a.put o.dst (.slice ap (n + 1) cp)) w') : wpList Tryd.prog ops Q (o :: rest) a w := by
  subst hln
  obtain ⟨i0, hi, hz0, hz1, hz2⟩ := info_parts infoRg
  refine wpList_append_sl hgd s x 24 ho B 44 i0 _ 2 16 Tryd.underlying24 hi hz0 hz1 hz2 rfl (by decide) v l.length (l.flatMap rgC) hs hown sv 1 ([new].flatMap rgC) hx hsl (rgC_one _) (by omega) (by decide) hbase ?_
  intro v' w' ho' hg
  have ho2 : OwnR w' B v' (l ++ [new]) := by unfold OwnR; simpa using ho'
  obtain ⟨ap, cp, rfl, _⟩ := rg_val ho2.rgv
  have e : (l ++ [new]).length = l.length + 1 := by simp
  rw [e] at ho2 ⊢
  exact h ap cp w' ho2 hg
/-- Behind an append and the store of what it gave. -/
theorem RdS.app {w0 w wm w' : World} {rb fb : Nat} {s : RS} {f : Fr} {vd vr v2 : Value} {l2 : List (Nat × Nat)} (h : RdS w0 w rb fb s f vd vr) (hA : Mod (fun _ => False) w wm) (ho : OwnR w' w0.heap.size v2 l2) (hg : wm.grownBy w' vr.ownBlock) : RdS w0 (w'.setCell ⟨fb, 7, none⟩ v2) rb fb s (f.setR l2) vd v2 := by
  have hM : Mod (fun j => vr.ownBlock = some j) w w' := (hA.mono (fun _ _ e => e.elim)).trans ((Mod.refl (fun j => vr.ownBlock = some j) _).grown hg (fun k hk _ => hk))
  have hb : ∀ j, vr.ownBlock = some j → w0.heap.size ≤ j := fun j hj => (World.ownsRow.lt h.or j hj).1
  have hF : FrB w' fb f vd vr := ⟨hM.blk h.fr.blk (fun e => by have := hb _ e; have := h.fl; omega), h.fr.len⟩
  have hS : Mod (fun k => k = fb) w' (w'.setCell ⟨fb, 7, none⟩ v2) := (Mod.refl (fun k => k = fb) w').setCell (p := ⟨fb, 7, none⟩) (fun _ => rfl) v2
  have hr : Rdr w' rb s := hM.rdr h.rd (fun e => by have := hb _ e; have := h.rl; omega) (fun b cs hbb => h.or.apart hbb (by decide))
  have hd : OwnB w' w0.heap.size vd f.d := hM.own h.od (fun g hg e => by
    rcases h.od.2 with ⟨hn, _⟩ | ⟨g', cap, cur, hv, _, hgg, _⟩
    · rw [hn] at hg; simp [Value.ownBlock] at hg
    · rw [hv] at hg; simp [Value.ownBlock] at hg; subst hg
      exact h.or.apart (show Blk w g' cur 5 from hgg) (by decide) e)
  refine ⟨hS.rdr hr (fun e => h.ne e.symm) (fun b cs hb e => ?_), ⟨(frset_r f vd vr v2 l2) ▸ hF.blk.set 7 v2, h.fr.len⟩, hS.own hd (fun g hg e => by have := (World.ownsRow.lt hd g hg).1; have := h.fl; omega), ho.kept hS (fun g hg e => by have := (World.ownsRow.lt ho g hg).1; have := h.fl; omega), (h.mod.trans' hM (fun i hi e => by have := hb _ e; omega)).trans (hS.mono (fun _ _ e => .inr e)), h.rl, h.fl, h.ne⟩
  subst e
  exact hF.blk.ne hb (by decide) rfl
/-- An Ack behind its type. -/
def ackR (f : Fr) (s : RS) : Fr × RS :=
  let h := s.int; let b := h.2.int; let n := b.2.int; let r := n.2.int
  if r.2.e ≠ 0 ∨ 16 ≤ n.1 ∨ h.1 < r.1 then (f.setB b.1, r.2.fail 3)
  else ((f.setB b.1).setR (readGaps n.1 [(h.1 - r.1, h.1)] (h.1 - r.1) r.2).1, (readGaps n.1 [(h.1 - r.1, h.1)] (h.1 - r.1) r.2).2)
theorem int_lt (s : RS) : s.int.1 < 4611686018427387904 := by
  unfold RS.int
  split
  · simp
  · rename_i c r hl
    split
    · simp
    · rename_i hlt
      have h8 := lenOf_le c
      have hb : (s.bytes (lenOf c)).1.length ≤ 8 := Nat.le_trans (bytes_le s _) h8.2
      by_cases h0 : (s.bytes (lenOf c)).1 = []
      · rw [h0]; simp [valOf]
      · have h := valOf_lt _ h0
        refine Nat.lt_of_lt_of_le h ?_
        have : 256 ^ ((s.bytes (lenOf c)).1.length - 1) ≤ 256 ^ 7 := Nat.pow_le_pow_right (by omega) (by omega)
        omega
theorem RdS.nil {w0 w w' : World} {rb fb : Nat} {s : RS} {f : Fr} {vd vr : Value} (h : RdS w0 w rb fb s f vd vr) (hM : Mod (fun _ => False) w w') : RdS w0 w' rb fb s f vd vr := h.rd1 (hM.mono (fun _ _ h => h.elim)) (h.rd.kept hM (fun _ _ h => h))
/-- The state of the loop. -/
def AckJ (w wr : World) (rb fb : Nat) (g : Fr) (vd : Value) (G : List (Nat × Nat) × RS) (n k : Nat) : Prop :=
  ∃ out lo s ap cp, readGaps (n - k) out lo s = G ∧ RdS w wr rb fb s (g.setR out) vd (.slice ap (k + 1) cp) ∧ out.length = k + 1 ∧ (∃ h, out[k]? = some (lo, h)) ∧ lo < 4611686018427387904
theorem gaps_bad {n lo : Nat} {out : List (Nat × Nat)} {s : RS} (h : s.int.2.int.2.e ≠ 0 ∨ lo < 2 ∨ lo - 2 < s.int.1 ∨ lo - 2 - s.int.1 < s.int.2.int.1) : readGaps (n + 1) out lo s = (out, s.int.2.int.2.fail 3) := by
  show (if _ then _ else _) = _
  rw [if_pos h]
theorem gaps_good {n lo : Nat} {out : List (Nat × Nat)} {s : RS} (h : ¬ (s.int.2.int.2.e ≠ 0 ∨ lo < 2 ∨ lo - 2 < s.int.1 ∨ lo - 2 - s.int.1 < s.int.2.int.1)) : readGaps (n + 1) out lo s = readGaps n (out ++ [(lo - 2 - s.int.1 - s.int.2.int.1, lo - 2 - s.int.1)]) (lo - 2 - s.int.1 - s.int.2.int.1) s.int.2.int.2 := by
  show (if _ then _ else _) = _
  rw [if_neg h]
theorem noGoto_normal {Q : Exit → Act → World → Prop} {a : Act} {w : World} (h : Q .normal a w) : Exit.noGoto Q .normal a w := h
theorem ackR_bad {f : Fr} {s : RS} (h : s.int.2.int.2.int.2.int.2.e ≠ 0 ∨ 16 ≤ s.int.2.int.2.int.1 ∨ s.int.1 < s.int.2.int.2.int.2.int.1) : ackR f s = (f.setB s.int.2.int.1, s.int.2.int.2.int.2.int.2.fail 3) := by
  unfold ackR
  simp only
  rw [if_pos h]
theorem ackR_good {f : Fr} {s : RS} (h : ¬ (s.int.2.int.2.int.2.int.2.e ≠ 0 ∨ 16 ≤ s.int.2.int.2.int.1 ∨ s.int.1 < s.int.2.int.2.int.2.int.1)) : ackR f s = ((f.setB s.int.2.int.1).setR (readGaps s.int.2.int.2.int.1 [(s.int.1 - s.int.2.int.2.int.2.int.1, s.int.1)] (s.int.1 - s.int.2.int.2.int.2.int.1) s.int.2.int.2.int.2.int.2).1, (readGaps s.int.2.int.2.int.1 [(s.int.1 - s.int.2.int.2.int.2.int.1, s.int.1)] (s.int.1 - s.int.2.int.2.int.2.int.1) s.int.2.int.2.int.2.int.2).2) := by
  unfold ackR
  simp only
  rw [if_neg h]
set_option maxHeartbeats 8000000 in
set_option maxRecDepth 10000 in
theorem readack {w : World} {rb fb : Nat} {s0 : RS} {f : Fr} {vd vr : Value} (hS : RdS w w rb fb s0 f vd vr) : Calls Tryd.prog 60 #[.pointer (some ⟨rb, 0, none⟩), .pointer (some ⟨fb, 0, none⟩)] w (ReadR w rb fb (ackR f s0)) := by
  have HS0 := Lib.hid hS
  clear hS
  obtain ⟨R, hR⟩ : ∃ R, R = ackR f s0 := ⟨_, rfl⟩
  rw [← hR]
  have HR := Lib.hid hR
  clear hR
  go_enter Tryd.func60, Tryd.ntmps60
  go_wp2_with fail
  refine wp_scope_fwd ?_
  go_wp2_with fail
  refine (int_any HS0.out.rd).mono ?_
  rintro e w1 ⟨rfl, hr, hM⟩
  have HS1 := Lib.hid (HS0.out.rd1 hM hr)
  clear hr hM
  go_wp2_with fail
  refine (int_any HS1.out.rd).mono ?_
  rintro e w2 ⟨rfl, hr, hM⟩
  have HS2 := Lib.hid (HS1.out.rd1 hM hr)
  clear hr hM
  obtain ⟨d0, d1, d2, d3, d4, d5, d6, d7⟩ := HS2.out.fr.cells
  have f3 := HS2.out.fr.blk.free 3
  go_wp2_with fail
  have HS3 := Lib.hid (HS2.out.setB s0.int.2.int.1)
  clear d0 d1 d2 d3 d4 d5 d6 d7 f3
  refine (int_any HS3.out.rd).mono ?_
  rintro e w4 ⟨rfl, hr, hM⟩
  have HS4 := Lib.hid (HS3.out.rd1 hM hr)
  clear hr hM
  go_wp2_with fail
  refine (int_any HS4.out.rd).mono ?_
  rintro e w5 ⟨rfl, hr, hM⟩
  have HS5 := Lib.hid (HS4.out.rd1 hM hr)
  clear hr hM
  go_wp2_with fail
  refine (bad_any HS5.out.rd).mono ?_
  rintro e w6 ⟨rfl, rfl⟩
  have HB := Lib.hid (@ackR_bad f s0)
  have HG := Lib.hid (@ackR_good f s0)
  generalize hs5 : s0.int.2.int.2.int.2.int.2 = s5 at *
  generalize hn5 : s0.int.2.int.2.int.1 = n at *
  generalize hr5 : s0.int.2.int.2.int.2.int.1 = run at *
  generalize hh5 : s0.int.1 = hi at *
  generalize hb5 : s0.int.2.int.1 = bd at *
  clear hs5 hn5 hr5 hb5
  by_cases he : s5.e = 0
  case neg =>
    have t1 : (s5.e != 0) = true := by simpa using he
    have HE := Lib.hid (HB.out (.inl he))
    clear he
    go_wp2_with (first
      | (with_reducible refine wp_label ?_)
      | ((with_reducible refine wp_goto ?_); refine fwd_goto 0 rfl ?_)
      | fail)
    refine (fail_any 3 HS5.out.rd).mono ?_
    rintro e w7 ⟨rfl, hr, hM⟩
    have HS7 := Lib.hid (HS5.out.rd1 hM hr)
    clear hr hM
    go_wp2_with fail
    refine noGoto_normal ?_
    go_end0
    exact ⟨rfl, vd, vr, by rw [HR.out, HE.out]; exact HS7.out⟩
  case pos =>
    have t1 : (s5.e != 0) = false := by simp [he]
    by_cases hn : (16 : Int) ≤ n
    case pos =>
      have HE := Lib.hid (HB.out (.inr (.inl (by omega))))
      clear he
      go_wp2_with (first
        | (with_reducible refine wp_label ?_)
        | ((with_reducible refine wp_goto ?_); refine fwd_goto 0 rfl ?_)
        | fail)
      refine (fail_any 3 HS5.out.rd).mono ?_
      rintro e w7 ⟨rfl, hr, hM⟩
      have HS7 := Lib.hid (HS5.out.rd1 hM hr)
      clear hr hM
      go_wp2_with fail
      refine noGoto_normal ?_
      go_end0
      exact ⟨rfl, vd, vr, by rw [HR.out, HE.out]; exact HS7.out⟩
    case neg =>
      by_cases hlt : (hi : Int) < run
      case pos =>
        have HE := Lib.hid (HB.out (.inr (.inr (by omega))))
        clear he
        go_wp2_with (first
          | (with_reducible refine wp_label ?_)
          | ((with_reducible refine wp_goto ?_); refine fwd_goto 0 rfl ?_)
          | fail)
        refine (fail_any 3 HS5.out.rd).mono ?_
        rintro e w7 ⟨rfl, hr, hM⟩
        have HS7 := Lib.hid (HS5.out.rd1 hM hr)
        clear hr hM
        go_wp2_with fail
        refine noGoto_normal ?_
        go_end0
        exact ⟨rfl, vd, vr, by rw [HR.out, HE.out]; exact HS7.out⟩
      case neg =>
        have HEO := Lib.hid (HG.out (by omega))
        have hhi : hi < 4611686018427387904 := by rw [← hh5]; exact int_lt _
        obtain ⟨lo, hlo⟩ : ∃ z : Int, ((hi - run : Nat) : Int) = z := ⟨_, rfl⟩
        have hw1 : IntKind.u64.wrap ((hi : Int) - run) = lo := by rw [show (hi : Int) - run = lo by omega]; exact IntWalk.u64_in _ (by omega)
        have HLO := Lib.hid hlo
        have hn15 : (n : Int) < 16 := by omega
        have HSA := Lib.hid (HS5.out.nil ((Mod.refl (fun _ => False) _).alloc (.cells #[.int .u64 lo, .int .u64 (hi : Int)] 44)))
        obtain ⟨d0, d1, d2, d3, d4, d5, d6, d7⟩ := HSA.out.fr.cells
        have f7 := HSA.out.fr.blk.free 7
        have HOR := Lib.hid (own_one w5 w.heap.size HS5.out.mod.size (b := hi) hlo rfl)
        have HSB := Lib.hid (HSA.out.setR HOR.out)
        obtain ⟨G, hG⟩ : ∃ G, G = readGaps n [(hi - run, hi)] (hi - run) s5 := ⟨_, rfl⟩
        have HGG := Lib.hid hG
        have HJ0 : Hid (AckJ w _ rb fb (f.setB bd) vd G n 0) := ⟨_, _, _, _, _, hG.symm, HSB.out, rfl, ⟨_, rfl⟩, by omega⟩
        have t2 : decide ((16 : Int) ≤ (n : Int)) = false := decide_eq_false hn
        have t3 : decide (hi < run) = false := decide_eq_false (by omega)
        have t3' : decide ((hi : Int) < (run : Int)) = false := decide_eq_false hlt
        clear he hlo hG hhi
        go_wp2_with fail
        clear d0 d1 d2 d3 d4 d5 d6 d7 f7 HSA HOR HSB HS5 HB HG hh5
        go_loopw [43] (fun s43 wr => ∃ k : Nat, k ≤ n ∧ s43 = .int .u64 k ∧ Hid (AckJ w wr rb fb (f.setB bd) vd G n k)) (fun s43 _ => n - (intOf s43).toNat)
        case atStart => exact ⟨0, Nat.zero_le _, rfl, HJ0⟩
        case round =>
          clear HJ0
          obtain ⟨k, hk, rfl, HJ⟩ := hrel
          by_cases hkn : (k : Int) < n
          · obtain ⟨out, lq, s, ap, cp, hq1, hS, hlen, ⟨hh, hlast⟩, hlt62⟩ := HJ.out
            have HS0 := Lib.hid hS
            have HQ1 := Lib.hid hq1
            have HLEN := Lib.hid hlen
            have HLAST := Lib.hid hlast
            clear hS hq1 hlen hlast HJ
            go_wp2_with fail
            refine (int_any HS0.out.rd).mono ?_
            rintro e y1 ⟨rfl, hr, hM⟩
            have HS1 := Lib.hid (HS0.out.rd1 hM hr)
            clear hr hM
            go_wp2_with fail
            refine (int_any HS1.out.rd).mono ?_
            rintro e y2 ⟨rfl, hr, hM⟩
            have HS2 := Lib.hid (HS1.out.rd1 hM hr)
            clear hr hM
            obtain ⟨b, off, cp', hv, _, _, hcs⟩ := rg_addr HS2.out.or.rgv (by intro h; have := HLEN.out; rw [show out = [] from h] at this; simp at this)
            simp only [Value.slice.injEq] at hv
            obtain ⟨rfl, _, rfl⟩ := hv
            obtain ⟨c0, _⟩ := hcs k _ HLAST.out
            have c7 := HS2.out.fr.cells.2.2.2.2.2.2.2
            obtain ⟨m, hm⟩ : ∃ m, m = k + 1 := ⟨_, rfl⟩
            rw [← hm] at c7 HS2
            have hwm : IntKind.i64.wrap ((m : Int) - 1) = (k : Int) := by rw [show (m : Int) - 1 = k by omega]; exact IntWalk.i64_in _ (by omega)
            have hkm : (k : Int) < m := by omega
            have hk0 : (0 : Int) ≤ k := by omega
            have HM := Lib.hid hm
            obtain ⟨lz, hlz⟩ : ∃ z : Int, (lq : Int) = z := ⟨_, rfl⟩
            rw [show ((lq, hh).1 : Nat) = lq from rfl, hlz] at c0
            have hlz62 : lz < 4611686018427387904 := by omega
            have hlz0 : 0 ≤ lz := by omega
            have HLZ := Lib.hid hlz
            have HB := Lib.hid (@gaps_bad (n - (k + 1)) lq out s)
            have HG := Lib.hid (@gaps_good (n - (k + 1)) lq out s)
            have HNK : Hid (n - k = n - (k + 1) + 1) := by show _ = _; omega
            clear hcs hm hlz hlt62
            generalize s.int.1 = gp at *
            generalize s.int.2.int.1 = rn at *
            generalize s.int.2.int.2 = s2 at *
            clear HS0 HS1
            go_wp2_with fail
            have HS3 := Lib.hid (fun q => HS2.out.nil ((Mod.refl (fun _ => False) y2).drewN q))
            go_quiet (fail)
            have HS3 := Lib.hid (HS3.out nq)
            generalize y2.drewN nq = y3 at *
            go_wp2_with fail
            refine (bad_any HS3.out.rd).mono ?_
            rintro e y4 ⟨rfl, rfl⟩
            by_cases he : s2.e = 0
            case neg =>
              have t1 : (s2.e != 0) = true := by simpa using he
              have HE := Lib.hid (HB.out (.inl he))
              clear he
              go_wp2_with (first
                | (with_reducible refine wp_label ?_)
                | ((with_reducible refine wp_goto ?_); refine fwd_goto 0 rfl ?_)
                | fail)
              refine (fail_any 3 HS3.out.rd).mono ?_
              rintro e y5 ⟨rfl, hr, hM⟩
              have HS5 := Lib.hid (HS3.out.rd1 hM hr)
              clear hr hM
              go_wp2_with fail
              refine noGoto_normal ?_
              go_end0
              exact ⟨rfl, vd, .slice (some ⟨b, off, none⟩) m cp, by rw [HR.out, HEO.out, ← HGG.out, ← HQ1.out, HNK.out, HE.out]; exact HS5.out⟩
            case pos =>
              have t1 : (s2.e != 0) = false := by simp [he]
              by_cases h2 : lz < 2
              case pos =>
                have d2 : decide (lz < 2) = true := decide_eq_true h2
                have HE := Lib.hid (HB.out (.inr (.inl (by have := HLZ.out; omega))))
                clear he
                go_wp2_with (first
                  | (with_reducible refine wp_label ?_)
                  | ((with_reducible refine wp_goto ?_); refine fwd_goto 0 rfl ?_)
                  | fail)
                refine (fail_any 3 HS3.out.rd).mono ?_
                rintro e y5 ⟨rfl, hr, hM⟩
                have HS5 := Lib.hid (HS3.out.rd1 hM hr)
                clear hr hM
                go_wp2_with fail
                refine noGoto_normal ?_
                go_end0
                exact ⟨rfl, vd, .slice (some ⟨b, off, none⟩) m cp, by rw [HR.out, HEO.out, ← HGG.out, ← HQ1.out, HNK.out, HE.out]; exact HS5.out⟩
              case neg =>
                have d2 : decide (lz < 2) = false := decide_eq_false h2
                have hv1 : IntKind.u64.wrap (lz - 2) = lz - 2 := IntWalk.u64_in _ (by omega)
                by_cases h3 : lz - 2 < (gp : Int)
                case pos =>
                  have d3 : decide (lz - 2 < (gp : Int)) = true := decide_eq_true h3
                  have HE := Lib.hid (HB.out (.inr (.inr (.inl (by have := HLZ.out; omega)))))
                  clear he
                  go_wp2_with (first
                    | (with_reducible refine wp_label ?_)
                    | ((with_reducible refine wp_goto ?_); refine fwd_goto 0 rfl ?_)
                    | fail)
                  refine (fail_any 3 HS3.out.rd).mono ?_
                  rintro e y5 ⟨rfl, hr, hM⟩
                  have HS5 := Lib.hid (HS3.out.rd1 hM hr)
                  clear hr hM
                  go_wp2_with fail
                  refine noGoto_normal ?_
                  go_end0
                  exact ⟨rfl, vd, .slice (some ⟨b, off, none⟩) m cp, by rw [HR.out, HEO.out, ← HGG.out, ← HQ1.out, HNK.out, HE.out]; exact HS5.out⟩
                case neg =>
                  have d3 : decide (lz - 2 < (gp : Int)) = false := decide_eq_false h3
                  have hv2 : IntKind.u64.wrap (lz - 2 - (gp : Int)) = lz - 2 - gp := IntWalk.u64_in _ (by omega)
                  by_cases h4 : lz - 2 - (gp : Int) < (rn : Int)
                  case pos =>
                    have d4 : decide (lz - 2 - (gp : Int) < (rn : Int)) = true := decide_eq_true h4
                    have HE := Lib.hid (HB.out (.inr (.inr (.inr (by have := HLZ.out; omega)))))
                    clear he
                    go_wp2_with (first
                      | (with_reducible refine wp_label ?_)
                      | ((with_reducible refine wp_goto ?_); refine fwd_goto 0 rfl ?_)
                      | fail)
                    refine (fail_any 3 HS3.out.rd).mono ?_
                    rintro e y5 ⟨rfl, hr, hM⟩
                    have HS5 := Lib.hid (HS3.out.rd1 hM hr)
                    clear hr hM
                    go_wp2_with fail
                    refine noGoto_normal ?_
                    go_end0
                    exact ⟨rfl, vd, .slice (some ⟨b, off, none⟩) m cp, by rw [HR.out, HEO.out, ← HGG.out, ← HQ1.out, HNK.out, HE.out]; exact HS5.out⟩
                  case neg =>
                    have d4 : decide (lz - 2 - (gp : Int) < (rn : Int)) = false := decide_eq_false h4
                    have hv3 : IntKind.u64.wrap (lz - 2 - (gp : Int) - (rn : Int)) = lz - 2 - gp - rn := IntWalk.u64_in _ (by omega)
                    have HE := Lib.hid (HG.out (by have := HLZ.out; omega))
                    have HX1 : Hid (((lq - 2 - gp - rn : Nat) : Int) = lz - 2 - gp - rn) := by show _ = _; have := HLZ.out; omega
                    have HX2 : Hid (((lq - 2 - gp : Nat) : Int) = lz - 2 - gp) := by show _ = _; have := HLZ.out; omega
                    have c7' := HS3.out.fr.cells.2.2.2.2.2.2.2
                    have hAl : Mod (fun _ => False) y3 (y3.alloc (.cells #[.int .u64 (lz - 2 - gp - rn), .int .u64 (lz - 2 - gp)] 44)) := (Mod.refl _ _).alloc _
                    have HAl := Lib.hid hAl
                    have HSZ : Hid (w.heap.size ≤ (y3.alloc (.cells #[.int .u64 (lz - 2 - gp - rn), .int .u64 (lz - 2 - gp)] 44)).heap.size) := (HS3.out.nil hAl).mod.size
                    have HOW := Lib.hid (HS3.out.nil hAl).or
                    have HLM : Hid (out.length = m) := by show _ = _; rw [HLEN.out, HM.out]
                    have hm16 : m ≤ 100000 := by have := HM.out; omega
                    clear he hAl c7
                    go_wp2_with (first
                      | (at_builtin; go_must (refine wpList_append_rg rfl (.tmp 87) (.tmp 99) (by rfl) (.slice (some ⟨b, off, none⟩) m cp) out w.heap.size (by rfl) HOW.out (.slice (some ⟨y3.heap.size, 0, none⟩) 1 1) (lq - 2 - gp - rn, lq - 2 - gp) (by rfl) (rg_one y3 HX1.out HX2.out) m HLM.out hm16 HSZ.out ?_); intro ap2 cp2 W5 ho hg; have hMg : Mod (fun j => (Value.slice (some ⟨b, off, none⟩) m cp).ownBlock = some j) (y3.alloc (.cells #[.int .u64 (lz - 2 - gp - rn), .int .u64 (lz - 2 - gp)] 44)) W5 := (Mod.refl (fun j => (Value.slice (some ⟨b, off, none⟩) m cp).ownBlock = some j) _).grown hg (fun k hk _ => hk); have hF5 := hMg.blk (HS3.out.nil HAl.out).fr.blk (fun e => by have := (World.ownsRow.lt HOW.out _ e).1; have := HS3.out.fl; omega); have q7 := hF5.cellAt 7 rfl; have qf := hF5.free 7; have HGR := Lib.hid hg; have HO5 := Lib.hid ho; clear ho hg hMg hF5)
                      | fail)
                    have HS6 := Lib.hid (HS3.out.app HAl.out HO5.out HGR.out)
                    go_roundw
                    case rel => exact ⟨k + 1, by omega, by go_num, ⟨out ++ [(lq - 2 - gp - rn, lq - 2 - gp)], _, s2, ap2, cp2, by rw [← HE.out, ← HNK.out]; exact HQ1.out, by obtain rfl : m = k + 1 := HM.out; exact HS6.out, by simp [HLEN.out], ⟨lq - 2 - gp, by rw [List.getElem?_append_right (by rw [HLEN.out]; omega), HLEN.out]; simp⟩, by have := HX1.out; omega⟩⟩
                    case measure => simp [intOf]; omega
          · have hkn' : k = n := by omega
            obtain ⟨out, lq, s, ap, cp, hq1, hS, hlen, hlast, hlt62⟩ := HJ.out
            have HQ1 : Hid ((out, s) = G) := by rw [hkn', Nat.sub_self] at hq1; exact hq1
            have HS1 := Lib.hid hS
            clear hq1 hS hlen hlast hlt62 HJ
            go_wp2_with fail
            refine fwd_ret ?_
            go_end0
            exact ⟨rfl, vd, .slice ap (k + 1) cp, by rw [HR.out, HEO.out, ← HGG.out, ← HQ1.out]; exact HS1.out⟩
end Go.Proofs.YteegonadodmeeaaDoor
