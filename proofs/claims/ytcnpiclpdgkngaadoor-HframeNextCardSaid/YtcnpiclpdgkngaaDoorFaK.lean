/- The program's Next: where there is no frame. (printed by genfak.py) -/
import Derived.Test.YtcnpiclpdgkngaaDoorFaJ
namespace Go.Proofs.YtcnpiclpdgkngaaDoor
open Go.RowKit

set_option maxHeartbeats 4000000 in
set_option maxRecDepth 10000 in
theorem next_bad {w : World} {v : Value} {b : List UInt8} (h : Byts w v b) (hl : (b.length : Int) ≤ 100000) (h1 : ¬ (RS.int ⟨b, 0⟩).2.e = 0) : Calls Tryd.prog 19 #[v] w (NextR w (nextL b)) := by
  obtain ⟨R, hR⟩ : ∃ x, x = nextL b := ⟨_, rfl⟩
  rw [← hR]
  have HRR : Hid (R = (HF.zero, 0, 2)) := hR.trans (nextL_bad h1)
  clear hR
  have H := Lib.hid h
  have HL := Lib.hid hl
  obtain ⟨a, cap, rfl, _⟩ := byts_val h
  obtain ⟨bl, hbl⟩ : ∃ x, x = b.length := ⟨_, rfl⟩
  rw [← hbl] at HL ⊢
  have HBL := Lib.hid hbl
  clear h hl hbl
  have HB3 := Lib.hid (bytes_bad _ (RS.int ⟨b, 0⟩).2.int.1 (int_bad _ h1))
  go_enter Tryd.func19, Tryd.ntmps19
  go_wp2_with fail
  have hM0 : Mod (fun _ => False) w ((w.alloc (.cells zC 26)).alloc (.cells zC 26)) := ((Mod.refl _ w).alloc _).alloc _
  rw [HBL.out]
  refine (read_any (byts_kept H.out hM0) (by have := HL.out; have := HBL.out; omega)).mono ?_
  rintro e w1 ⟨rb, rfl, hrb, hr, hM1⟩
  rw [← HBL.out]
  have HS : Hid (NxS w w1 rb ⟨b, 0⟩) := ⟨hM1.blk ((Blk.new w zC _).alloc _) (fun h => h), hM1.blk (by have := Blk.new (w.alloc (.cells zC 26)) zC 26; rwa [show (w.alloc (.cells zC 26)).heap.size = w.heap.size + 1 by simp] at this) (fun h => h), hr, by simpa using hrb, hM0.trans hM1⟩
  clear hM0 hM1 hr hrb
  go_wp2_with fail
  refine (int_any HS.out.rd).mono ?_
  rintro e w2 ⟨rfl, hr, hM⟩
  have HS2 := Lib.hid (HS.out.toR hM hr)
  clear hr hM HS
  have HS := HS2
  clear HS2
  generalize RS.int ⟨b, 0⟩ = R1 at *
  obtain ⟨t, s1⟩ := R1
  simp only at *
  have ht : (s1.e == 0) = false := by simpa using h1
  clear h1
  go_wp2_with (first
    | (go_at_call 35; refine (bad_any HS.out.rd).mono ?_; rintro e w' ⟨rfl, rfl⟩)
    | fail)
  refine (int_any HS.out.rd).mono ?_
  rintro e w3 ⟨rfl, hr, hM⟩
  have HS2 := Lib.hid (HS.out.toR hM hr)
  clear hr hM HS
  have HS := HS2
  clear HS2
  go_wp2_with fail
  refine (bytes_any s1.int.1 HS.out.rd).mono ?_
  rintro e w4 ⟨vb, rfl, hob, hr, hM⟩
  have HS2 := Lib.hid (HS.out.toR hM hr)
  clear hr hM HS
  have HS := HS2
  clear HS2
  obtain ⟨ba, bc, rfl, _⟩ := byts_val hob.byts
  have HOB := Lib.hid hob
  clear hob
  generalize s1.int = R2 at *
  generalize R2.2.bytes R2.1 = R3 at *
  have ht2 : (R3.2.e != 0) = true := by simpa using HB3.out
  generalize R3.1.length = nb at *
  go_wp2_with (first
    | (go_at_call 35; refine (bad_any HS.out.rd).mono ?_; rintro e w' ⟨rfl, rfl⟩)
    | ((with_reducible refine wpList_load_blk ?_ 26 (.tmp 5) ?_ (w.heap.size + 1) ?_ zC 26 _ HS.out.f Tryd.underlying26 ?_ size26z ?_); (· exact rfl); (· exact rfl); (· exact rfl); (· exact rfl))
    | ((with_reducible refine wpList_store_blk ?_ 26 (.tmp 2) (.tmp 44) ?_ w.heap.size ?_ zC zC ?_ 26 HS.out.res size26z ?_ zC_one ?_); (· exact rfl); (· exact rfl); (· exact rfl); (· exact rfl); (· exact rfl); intro wz hBz hMz)
    | fail)
  refine bodyPost_ret (v := .tuple #[.agg zC, .int .i64 ((0 : Nat) : Int), .int .i64 2]) ?_ rfl ?_
  · exact next_run Tryd.results19 rfl rfl rfl hBz size26z
  · rw [HRR.out]
    exact next_zero (HS.out.mod.trans' hMz (fun i hi e => by omega))
set_option maxHeartbeats 4000000 in
set_option maxRecDepth 10000 in
theorem next_old {w : World} {v : Value} {b : List UInt8} (h : Byts w v b) (hl : (b.length : Int) ≤ 100000) (h1 : (RS.int ⟨b, 0⟩).2.e = 0) (ho : isOld (RS.int ⟨b, 0⟩).1 = true) : Calls Tryd.prog 19 #[v] w (NextR w (nextL b)) := by
  obtain ⟨R, hR⟩ : ∃ x, x = nextL b := ⟨_, rfl⟩
  rw [← hR]
  have HRR : Hid (R = (HF.zero, 0, 3)) := hR.trans (nextL_old h1 ho)
  clear hR
  have H := Lib.hid h
  have HL := Lib.hid hl
  obtain ⟨a, cap, rfl, _⟩ := byts_val h
  obtain ⟨bl, hbl⟩ : ∃ x, x = b.length := ⟨_, rfl⟩
  rw [← hbl] at HL ⊢
  have HBL := Lib.hid hbl
  clear h hl hbl
  go_enter Tryd.func19, Tryd.ntmps19
  go_wp2_with fail
  have hM0 : Mod (fun _ => False) w ((w.alloc (.cells zC 26)).alloc (.cells zC 26)) := ((Mod.refl _ w).alloc _).alloc _
  rw [HBL.out]
  refine (read_any (byts_kept H.out hM0) (by have := HL.out; have := HBL.out; omega)).mono ?_
  rintro e w1 ⟨rb, rfl, hrb, hr, hM1⟩
  rw [← HBL.out]
  have HS : Hid (NxS w w1 rb ⟨b, 0⟩) := ⟨hM1.blk ((Blk.new w zC _).alloc _) (fun h => h), hM1.blk (by have := Blk.new (w.alloc (.cells zC 26)) zC 26; rwa [show (w.alloc (.cells zC 26)).heap.size = w.heap.size + 1 by simp] at this) (fun h => h), hr, by simpa using hrb, hM0.trans hM1⟩
  clear hM0 hM1 hr hrb
  go_wp2_with fail
  refine (int_any HS.out.rd).mono ?_
  rintro e w2 ⟨rfl, hr, hM⟩
  have HS2 := Lib.hid (HS.out.toR hM hr)
  clear hr hM HS
  have HS := HS2
  clear HS2
  generalize RS.int ⟨b, 0⟩ = R1 at *
  obtain ⟨t, s1⟩ := R1
  simp only at *
  have ht : (s1.e == 0) = true := by simpa using h1
  have hz : (t : Int) = 2 ∨ (t : Int) = 6 ∨ (t : Int) = 8 ∨ (t : Int) = 9 := by
    unfold isOld at ho
    simp only [Bool.or_eq_true, decide_eq_true_eq] at ho
    omega
  clear h1 ho
  generalize (t : Int) = z at *
  rcases hz with rfl | rfl | rfl | rfl
  all_goals
    go_wp2_with (first
      | (go_at_call 35; refine (bad_any HS.out.rd).mono ?_; rintro e w' ⟨rfl, rfl⟩)
      | ((with_reducible refine wpList_load_blk ?_ 26 (.tmp 5) ?_ (w.heap.size + 1) ?_ zC 26 _ HS.out.f Tryd.underlying26 ?_ size26z ?_); (· exact rfl); (· exact rfl); (· exact rfl); (· exact rfl))
      | ((with_reducible refine wpList_store_blk ?_ 26 (.tmp 2) (.tmp 36) ?_ w.heap.size ?_ zC zC ?_ 26 HS.out.res size26z ?_ zC_one ?_); (· exact rfl); (· exact rfl); (· exact rfl); (· exact rfl); (· exact rfl); intro wz hBz hMz)
      | fail)
    refine bodyPost_ret (v := .tuple #[.agg zC, .int .i64 ((0 : Nat) : Int), .int .i64 3]) ?_ rfl ?_
    · exact next_run Tryd.results19 rfl rfl rfl hBz size26z
    · rw [HRR.out]
      exact next_zero (HS.out.mod.trans' hMz (fun i hi e => by omega))
set_option maxHeartbeats 4000000 in
set_option maxRecDepth 10000 in
theorem next_short {w : World} {v : Value} {b : List UInt8} (h : Byts w v b) (hl : (b.length : Int) ≤ 100000) (h1 : (RS.int ⟨b, 0⟩).2.e = 0) (ho : isOld (RS.int ⟨b, 0⟩).1 = false) (h3 : ((RS.int ⟨b, 0⟩).2.int.2.bytes (RS.int ⟨b, 0⟩).2.int.1).2.e ≠ 0) : Calls Tryd.prog 19 #[v] w (NextR w (nextL b)) := by
  obtain ⟨R, hR⟩ : ∃ x, x = nextL b := ⟨_, rfl⟩
  rw [← hR]
  have HRR : Hid (R = (HF.zero, 0, 2)) := hR.trans (nextL_short ho h3)
  clear hR
  have H := Lib.hid h
  have HL := Lib.hid hl
  obtain ⟨a, cap, rfl, _⟩ := byts_val h
  obtain ⟨bl, hbl⟩ : ∃ x, x = b.length := ⟨_, rfl⟩
  rw [← hbl] at HL ⊢
  have HBL := Lib.hid hbl
  clear h hl hbl
  have HB3 := Lib.hid h3
  clear h3
  go_enter Tryd.func19, Tryd.ntmps19
  go_wp2_with fail
  have hM0 : Mod (fun _ => False) w ((w.alloc (.cells zC 26)).alloc (.cells zC 26)) := ((Mod.refl _ w).alloc _).alloc _
  rw [HBL.out]
  refine (read_any (byts_kept H.out hM0) (by have := HL.out; have := HBL.out; omega)).mono ?_
  rintro e w1 ⟨rb, rfl, hrb, hr, hM1⟩
  rw [← HBL.out]
  have HS : Hid (NxS w w1 rb ⟨b, 0⟩) := ⟨hM1.blk ((Blk.new w zC _).alloc _) (fun h => h), hM1.blk (by have := Blk.new (w.alloc (.cells zC 26)) zC 26; rwa [show (w.alloc (.cells zC 26)).heap.size = w.heap.size + 1 by simp] at this) (fun h => h), hr, by simpa using hrb, hM0.trans hM1⟩
  clear hM0 hM1 hr hrb
  go_wp2_with fail
  refine (int_any HS.out.rd).mono ?_
  rintro e w2 ⟨rfl, hr, hM⟩
  have HS2 := Lib.hid (HS.out.toR hM hr)
  clear hr hM HS
  have HS := HS2
  clear HS2
  generalize RS.int ⟨b, 0⟩ = R1 at *
  obtain ⟨t, s1⟩ := R1
  simp only at *
  have ht : (s1.e == 0) = true := by simpa using h1
  have hz : ¬ (t : Int) = 2 ∧ ¬ (t : Int) = 6 ∧ ¬ (t : Int) = 8 ∧ ¬ (t : Int) = 9 := by
    unfold isOld at ho
    simp only [Bool.or_eq_false_iff, decide_eq_false_iff_not] at ho
    omega
  have t2 : ((t : Int) == 2) = false := by simpa using hz.1
  have t6 : ((t : Int) == 6) = false := by simpa using hz.2.1
  have t8 : ((t : Int) == 8) = false := by simpa using hz.2.2.1
  have t9 : ((t : Int) == 9) = false := by simpa using hz.2.2.2
  clear h1 ho hz
  generalize (t : Int) = z at *
  go_wp2_with (first
    | (go_at_call 35; refine (bad_any HS.out.rd).mono ?_; rintro e w' ⟨rfl, rfl⟩)
    | fail)
  refine (int_any HS.out.rd).mono ?_
  rintro e w3 ⟨rfl, hr, hM⟩
  have HS2 := Lib.hid (HS.out.toR hM hr)
  clear hr hM HS
  have HS := HS2
  clear HS2
  go_wp2_with fail
  refine (bytes_any s1.int.1 HS.out.rd).mono ?_
  rintro e w4 ⟨vb, rfl, hob, hr, hM⟩
  have HS2 := Lib.hid (HS.out.toR hM hr)
  clear hr hM HS
  have HS := HS2
  clear HS2
  obtain ⟨ba, bc, rfl, _⟩ := byts_val hob.byts
  have HOB := Lib.hid hob
  clear hob
  generalize s1.int = R2 at *
  generalize R2.2.bytes R2.1 = R3 at *
  have ht3 : (R3.2.e != 0) = true := by simpa using HB3.out
  generalize R3.1.length = nb at *
  go_wp2_with (first
    | (go_at_call 35; refine (bad_any HS.out.rd).mono ?_; rintro e w' ⟨rfl, rfl⟩)
    | ((with_reducible refine wpList_load_blk ?_ 26 (.tmp 5) ?_ (w.heap.size + 1) ?_ zC 26 _ HS.out.f Tryd.underlying26 ?_ size26z ?_); (· exact rfl); (· exact rfl); (· exact rfl); (· exact rfl))
    | ((with_reducible refine wpList_store_blk ?_ 26 (.tmp 2) (.tmp 44) ?_ w.heap.size ?_ zC zC ?_ 26 HS.out.res size26z ?_ zC_one ?_); (· exact rfl); (· exact rfl); (· exact rfl); (· exact rfl); (· exact rfl); intro wz hBz hMz)
    | fail)
  refine bodyPost_ret (v := .tuple #[.agg zC, .int .i64 ((0 : Nat) : Int), .int .i64 2]) ?_ rfl ?_
  · exact next_run Tryd.results19 rfl rfl rfl hBz size26z
  · rw [HRR.out]
    exact next_zero (HS.out.mod.trans' hMz (fun i hi e => by omega))
set_option maxHeartbeats 4000000 in
set_option maxRecDepth 10000 in
theorem next_none {w : World} {v : Value} {b : List UInt8} (h : Byts w v b) (hl : (b.length : Int) ≤ 100000) (h1 : (RS.int ⟨b, 0⟩).2.e = 0) (ho : isOld (RS.int ⟨b, 0⟩).1 = false) (h3 : ((RS.int ⟨b, 0⟩).2.int.2.bytes (RS.int ⟨b, 0⟩).2.int.1).2.e = 0) (hk : isKind (RS.int ⟨b, 0⟩).1 = false) : Calls Tryd.prog 19 #[v] w (NextR w (nextL b)) := by
  obtain ⟨R, hR⟩ : ∃ x, x = nextL b := ⟨_, rfl⟩
  rw [← hR]
  have HRR : Hid (R = (HF.zero, b.length - ((RS.int ⟨b, 0⟩).2.int.2.bytes (RS.int ⟨b, 0⟩).2.int.1).2.l.length, 6)) := hR.trans (nextL_none ho h3 hk)
  clear hR
  have H := Lib.hid h
  have HL := Lib.hid hl
  obtain ⟨a, cap, rfl, _⟩ := byts_val h
  obtain ⟨bl, hbl⟩ : ∃ x, x = b.length := ⟨_, rfl⟩
  rw [← hbl] at HL ⊢
  have HBL := Lib.hid hbl
  clear h hl hbl
  have HB3 := Lib.hid h3
  have HLL : Hid (((RS.int ⟨b, 0⟩).2.int.2.bytes (RS.int ⟨b, 0⟩).2.int.1).2.l.length ≤ b.length) := by
    show _ ≤ _
    have i1 := int_len ⟨b, 0⟩
    have i2 := int_len (RS.int ⟨b, 0⟩).2
    have i3 := (bytes_len (RS.int ⟨b, 0⟩).2.int.2 (RS.int ⟨b, 0⟩).2.int.1).1
    simp only at i1
    omega
  clear h3
  go_enter Tryd.func19, Tryd.ntmps19
  go_wp2_with fail
  have hM0 : Mod (fun _ => False) w ((w.alloc (.cells zC 26)).alloc (.cells zC 26)) := ((Mod.refl _ w).alloc _).alloc _
  rw [HBL.out]
  refine (read_any (byts_kept H.out hM0) (by have := HL.out; have := HBL.out; omega)).mono ?_
  rintro e w1 ⟨rb, rfl, hrb, hr, hM1⟩
  rw [← HBL.out]
  have HS : Hid (NxS w w1 rb ⟨b, 0⟩) := ⟨hM1.blk ((Blk.new w zC _).alloc _) (fun h => h), hM1.blk (by have := Blk.new (w.alloc (.cells zC 26)) zC 26; rwa [show (w.alloc (.cells zC 26)).heap.size = w.heap.size + 1 by simp] at this) (fun h => h), hr, by simpa using hrb, hM0.trans hM1⟩
  clear hM0 hM1 hr hrb
  go_wp2_with fail
  refine (int_any HS.out.rd).mono ?_
  rintro e w2 ⟨rfl, hr, hM⟩
  have HS2 := Lib.hid (HS.out.toR hM hr)
  clear hr hM HS
  have HS := HS2
  clear HS2
  generalize RS.int ⟨b, 0⟩ = R1 at *
  obtain ⟨t, s1⟩ := R1
  simp only at *
  have ht : (s1.e == 0) = true := by simpa using h1
  have hz : ¬ (t : Int) = 2 ∧ ¬ (t : Int) = 6 ∧ ¬ (t : Int) = 8 ∧ ¬ (t : Int) = 9 := by
    unfold isOld at ho
    simp only [Bool.or_eq_false_iff, decide_eq_false_iff_not] at ho
    omega
  have t2 : ((t : Int) == 2) = false := by simpa using hz.1
  have t6 : ((t : Int) == 6) = false := by simpa using hz.2.1
  have t8 : ((t : Int) == 8) = false := by simpa using hz.2.2.1
  have t9 : ((t : Int) == 9) = false := by simpa using hz.2.2.2
  clear h1 ho hz
  have hzk : (13 : Int) < (t : Int) ∨ ((t : Int) ≤ 13 ∧ ((t : Int) = 5 ∨ (t : Int) = 10 ∨ (t : Int) = 11 ∨ (t : Int) = 12)) := by
    unfold isKind isData isId at hk
    simp only [Bool.or_eq_false_iff, decide_eq_false_iff_not, beq_eq_false_iff_ne, ne_eq] at hk t2 t6 t8 t9
    omega
  clear hk
  generalize (t : Int) = z at *
  go_wp2_with (first
    | (go_at_call 35; refine (bad_any HS.out.rd).mono ?_; rintro e w' ⟨rfl, rfl⟩)
    | fail)
  refine (int_any HS.out.rd).mono ?_
  rintro e w3 ⟨rfl, hr, hM⟩
  have HS2 := Lib.hid (HS.out.toR hM hr)
  clear hr hM HS
  have HS := HS2
  clear HS2
  go_wp2_with fail
  refine (bytes_any s1.int.1 HS.out.rd).mono ?_
  rintro e w4 ⟨vb, rfl, hob, hr, hM⟩
  have HS2 := Lib.hid (HS.out.toR hM hr)
  clear hr hM HS
  have HS := HS2
  clear HS2
  obtain ⟨ba, bc, rfl, _⟩ := byts_val hob.byts
  have HOB := Lib.hid hob
  clear hob
  generalize s1.int = R2 at *
  generalize R2.2.bytes R2.1 = R3 at *
  have ht3 : (R3.2.e != 0) = false := by simpa using HB3.out
  generalize R3.1.length = nb at *
  rw [← HBL.out] at HLL
  have hnn : IntKind.i64.wrap ((bl : Int) - (R3.2.l.length : Int)) = ((bl - R3.2.l.length : Nat) : Int) := by have := HLL.out; have := HL.out; rw [IntWalk.i64_in _ (by omega)]; omega
  rw [← HBL.out] at HRR
  generalize bl - R3.2.l.length = nn at *
  rcases hzk with hz | ⟨_, hz⟩
  · have hzd : decide ((13 : Int) < z) = true := decide_eq_true hz
    go_wp2_with (first
      | (go_at_call 35; refine (bad_any HS.out.rd).mono ?_; rintro e w' ⟨rfl, rfl⟩)
      | (go_at_call 37; refine (left_any HS.out.rd).mono ?_; rintro e w' ⟨rfl, rfl⟩)
      | ((with_reducible refine wpList_load_blk ?_ 26 (.tmp 5) ?_ (w.heap.size + 1) ?_ zC 26 _ HS.out.f Tryd.underlying26 ?_ size26z ?_); (· exact rfl); (· exact rfl); (· exact rfl); (· exact rfl))
      | ((with_reducible refine wpList_store_blk ?_ 26 (.tmp 2) (.tmp 52) ?_ w.heap.size ?_ zC zC ?_ 26 HS.out.res size26z ?_ zC_one ?_); (· exact rfl); (· exact rfl); (· exact rfl); (· exact rfl); (· exact rfl); intro wz hBz hMz)
      | fail)
    refine bodyPost_ret (v := .tuple #[.agg zC, .int .i64 ((nn : Nat) : Int), .int .i64 6]) ?_ rfl ?_
    · exact next_run Tryd.results19 rfl rfl rfl hBz size26z
    · rw [HRR.out]
      exact next_zero (HS.out.mod.trans' hMz (fun i hi e => by omega))
  · have hzd : decide ((13 : Int) < z) = false := decide_eq_false (by omega)
    have hwz : IntKind.i64.wrap z = z := IntWalk.i64_in _ (by omega)
    have HKN : Hid (kindsF z = none) := by show _ = _; rcases hz with rfl | rfl | rfl | rfl <;> rfl
    have HOK := Lib.hid (okKey_small (z := z) (by omega) (by omega))
    clear hz
    go_wp2_with (first
      | (go_at_call 35; refine (bad_any HS.out.rd).mono ?_; rintro e w' ⟨rfl, rfl⟩)
      | (go_at_call 37; refine (left_any HS.out.rd).mono ?_; rintro e w' ⟨rfl, rfl⟩)
      | fail)
    refine (kinds_any _).mono ?_
    rintro e w5 ⟨mb, rfl, hV, hk5⟩
    have HS2 := Lib.hid (HS.out.toF hk5)
    clear HS hk5
    have HS := HS2
    clear HS2
    have hlk := hV.look2 (t := 56) (e := 55) HOK.out Tryd.underlying56 (zero_kind w5)
    rw [HKN.out] at hlk
    simp only [Option.getD_none, Option.isSome_none] at hlk
    clear hV
    go_wp2_with (first
      | ((with_reducible refine wpList_store_blk ?_ 55 (.tmp 10) (.tmp 59) ?_ w5.heap.size ?_ #[.nilFunc, .nilFunc] #[.nilFunc, .nilFunc] ?_ 55 (Blk.new _ _ _) (size55 _ _) ?_ ?_ ?_); (· exact rfl); (· exact rfl); (· exact rfl); (· exact rfl); (· exact rfl); (· intro v hv; simp at hv; rcases hv with rfl | rfl <;> rfl); intro w6 hB6 hM6; have hm6 : Mod (fun _ => False) w5 w6 := ((Mod.refl (fun _ => False) w5).alloc _).trans' hM6 (fun i hi e => by omega); have HX := Lib.hid (HS.out.toF hm6); clear hM6 hm6 HS; have HS := HX; clear HX)
      | ((with_reducible refine wpList_load_blk ?_ 26 (.tmp 5) ?_ (w.heap.size + 1) ?_ zC 26 _ HS.out.f Tryd.underlying26 ?_ size26z ?_); (· exact rfl); (· exact rfl); (· exact rfl); (· exact rfl))
      | ((with_reducible refine wpList_store_blk ?_ 26 (.tmp 2) (.tmp 63) ?_ w.heap.size ?_ zC zC ?_ 26 HS.out.res size26z ?_ zC_one ?_); (· exact rfl); (· exact rfl); (· exact rfl); (· exact rfl); (· exact rfl); intro wz hBz hMz)
      | fail)
    refine bodyPost_ret (v := .tuple #[.agg zC, .int .i64 ((nn : Nat) : Int), .int .i64 6]) ?_ rfl ?_
    · exact next_run Tryd.results19 rfl rfl rfl hBz size26z
    · rw [HRR.out]
      exact next_zero (HS.out.mod.trans' hMz (fun i hi e => by omega))
end Go.Proofs.YtcnpiclpdgkngaaDoor
