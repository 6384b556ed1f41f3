/- The document's Next: where there is no frame. (printed by genfbp.py) -/
import Derived.Test.YtcnpiclpdgkngaaDoorFaJ
import Derived.Test.YtcnpiclpdgkngaaDoorVarT
namespace Go.Proofs.YtcnpiclpdgkngaaDoor
open Go.RowKit

/-- The state of the document's Next. -/
structure RxS (w0 w : World) (tb : Nat) (a : Option Addr) (cap : Nat) (L : List UInt8) (s : RS) : Prop where
  res : Blk w w0.heap.size zC 26
  f : Blk w (w0.heap.size + 1) zC 26
  rd : RefS w tb a cap L s
  lo : w0.heap.size + 2 ≤ tb
  ab : L ≠ [] → ∀ x, a = some x → x.block < w0.heap.size
  mod : Mod (fun _ => False) w0 w
theorem RxS.toR {w0 w w' : World} {tb cap : Nat} {a : Option Addr} {L : List UInt8} {s s' : RS} (h : RxS w0 w tb a cap L s) (hM : Mod (fun k => k = tb) w w') (hr : RefS w' tb a cap L s') : RxS w0 w' tb a cap L s' :=
  ⟨hM.blk h.res (by have := h.lo; omega), hM.blk h.f (by have := h.lo; omega), hr, h.lo, h.ab, h.mod.trans' hM (fun i hi e => by have := h.lo; omega)⟩
theorem refs_cells {w : World} {tb cap : Nat} {a : Option Addr} {L : List UInt8} {s : RS} (h : RefS w tb a cap L s) : w.cell? ⟨tb, 2, none⟩ = some (.int .i64 s.e) ∧ (s.e = 0 → w.cell? ⟨tb, 1, none⟩ = some (.int .i64 ((L.length - s.l.length : Nat) : Int))) := by
  obtain ⟨k, e, rfl, hb, _, hk, _, _⟩ := h
  refine ⟨hb.cellAt 2 rfl, fun he => ?_⟩
  have he' : e = 0 := he
  subst he'
  have e1 : (refS L k 0).l.length = L.length - k := by simp [refS]
  rw [e1, show L.length - (L.length - k) = k by omega]
  exact hb.cellAt 1 rfl
theorem rx_made {w : World} {a : Option Addr} {n cap : Nat} {L : List UInt8} (h : Byts w (.slice a n cap) L) (hn : n = L.length) (hl : (L.length : Int) ≤ 5000) :
    RxS w (((w.alloc (.cells zC 26)).alloc (.cells zC 26)).alloc (.cells #[.slice a n cap, .int .i64 0, .int .i64 0] 70)) (w.heap.size + 2) a cap L ⟨L, 0⟩ := by
  subst hn
  have hM : Mod (fun _ => False) w (((w.alloc (.cells zC 26)).alloc (.cells zC 26)).alloc (.cells #[.slice a L.length cap, .int .i64 0, .int .i64 0] 70)) := (((Mod.refl _ w).alloc _).alloc _).alloc _
  have h1 : (w.alloc (.cells zC 26)).heap.size = w.heap.size + 1 := by simp
  have h2 : ((w.alloc (.cells zC 26)).alloc (.cells zC 26)).heap.size = w.heap.size + 2 := by simp
  have b1 := Blk.new (w.alloc (.cells zC 26)) zC 26
  have b2 := Blk.new ((w.alloc (.cells zC 26)).alloc (.cells zC 26)) #[.slice a L.length cap, .int .i64 0, .int .i64 0] 70
  rw [h1] at b1
  rw [h2] at b2
  have hab : L ≠ [] → ∀ x, a = some x → x.block < w.heap.size := by
    rintro hL x rfl
    exact Sl.lt h (by simpa using hL) _ rfl
  exact ⟨((Blk.new w zC _).alloc _).alloc _, b1.alloc _, ⟨0, 0, by simp [refS], b2, byts_kept h hM, Nat.zero_le _, by omega, fun hL x hx e => by have := hab hL x hx; omega⟩, by omega, hab, hM⟩
theorem byts_kept' {w w' : World} {v : Value} {l : List UInt8} (h : Byts w v l) (hM : Mod (fun _ => False) w w') : Byts w' v l := h.kept hM (fun _ _ h => h)
set_option maxHeartbeats 4000000 in
set_option maxRecDepth 10000 in
theorem rnext_bad {w : World} {v : Value} {b : List UInt8} (h : Byts w v b) (hl : (b.length : Int) ≤ 5000) (h1 : ¬ (RS.int ⟨b, 0⟩).2.e = 0) : Calls Tryd.prog 20 #[v] w (NextR w (nextL b)) := by
  obtain ⟨R, hR⟩ : ∃ x, x = nextL b := ⟨_, rfl⟩
  rw [← hR]
  have HRR : Hid (R = (HF.zero, 0, 2)) := hR.trans (nextL_bad h1)
  clear hR
  obtain ⟨a, cap, rfl, _⟩ := byts_val h
  obtain ⟨bl, hbl⟩ : ∃ x, x = b.length := ⟨_, rfl⟩
  rw [← hbl] at h ⊢
  have HS := Lib.hid (rx_made h hbl hl)
  have HBL := Lib.hid hbl
  clear h hl hbl
  have HB3 := Lib.hid (bytes_bad _ (RS.int ⟨b, 0⟩).2.int.1 (int_bad _ h1))
  go_enter Tryd.func20, Tryd.ntmps20
  go_wp2_with fail
  refine (refint_any HS.out.rd).mono ?_
  rintro e w2 ⟨rfl, hr, hM⟩
  have HS2 := Lib.hid (HS.out.toR hM hr)
  clear hr hM HS
  have HS := HS2
  clear HS2
  generalize w.heap.size + 2 = tb at *
  generalize RS.int ⟨b, 0⟩ = R1 at *
  obtain ⟨t, s1⟩ := R1
  simp only at *
  have cb := (refs_cells HS.out.rd).1
  have ht : (s1.e == 0) = false := by simpa using h1
  clear h1
  go_wp2_with fail
  refine (refint_any HS.out.rd).mono ?_
  rintro e w3 ⟨rfl, hr, hM⟩
  have HS2 := Lib.hid (HS.out.toR hM hr)
  clear hr hM HS cb
  have HS := HS2
  clear HS2
  go_wp2_with fail
  refine (refbytes_any s1.int.1 HS.out.rd).mono ?_
  rintro e w4 ⟨vb, rfl, hob, hr, hM⟩
  have HS2 := Lib.hid (HS.out.toR hM hr)
  have HW := Lib.hid (Nat.le_trans HS.out.mod.size (Nat.le_refl _))
  clear hr hM HS
  have HS := HS2
  clear HS2
  obtain ⟨ba, bc, rfl, _⟩ := byts_val hob.byts
  have HOB := Lib.hid hob
  clear hob
  generalize s1.int = R2 at *
  generalize R2.2.bytes R2.1 = R3 at *
  generalize hnb : R3.1.length = nb at *
  have HNB := Lib.hid hnb
  clear hnb
  have cb := (refs_cells HS.out.rd).1
  have ht2 : (R3.2.e != 0) = true := by simpa using HB3.out
  go_wp2_with (first
    | ((with_reducible refine wpList_load_blk ?_ 26 (.tmp 5) ?_ (w.heap.size + 1) ?_ zC 26 _ HS.out.f Tryd.underlying26 ?_ size26z ?_); (· exact rfl); (· exact rfl); (· exact rfl); (· exact rfl))
    | ((with_reducible refine wpList_store_blk ?_ 26 (.tmp 2) (.tmp 50) ?_ w.heap.size ?_ zC zC ?_ 26 HS.out.res size26z ?_ zC_one ?_); (· exact rfl); (· exact rfl); (· exact rfl); (· exact rfl); (· exact rfl); intro wz hBz hMz)
    | fail)
  refine bodyPost_ret (v := .tuple #[.agg zC, .int .i64 ((0 : Nat) : Int), .int .i64 2]) ?_ rfl ?_
  · exact next_run Tryd.results20 rfl rfl rfl hBz size26z
  · rw [HRR.out]
    exact next_zero (HS.out.mod.trans' hMz (fun i hi e => by omega))
set_option maxHeartbeats 4000000 in
set_option maxRecDepth 10000 in
theorem rnext_old {w : World} {v : Value} {b : List UInt8} (h : Byts w v b) (hl : (b.length : Int) ≤ 5000) (h1 : (RS.int ⟨b, 0⟩).2.e = 0) (ho : isOld (RS.int ⟨b, 0⟩).1 = true) : Calls Tryd.prog 20 #[v] w (NextR w (nextL b)) := by
  obtain ⟨R, hR⟩ : ∃ x, x = nextL b := ⟨_, rfl⟩
  rw [← hR]
  have HRR : Hid (R = (HF.zero, 0, 3)) := hR.trans (nextL_old h1 ho)
  clear hR
  obtain ⟨a, cap, rfl, _⟩ := byts_val h
  obtain ⟨bl, hbl⟩ : ∃ x, x = b.length := ⟨_, rfl⟩
  rw [← hbl] at h ⊢
  have HS := Lib.hid (rx_made h hbl hl)
  have HBL := Lib.hid hbl
  clear h hl hbl
  go_enter Tryd.func20, Tryd.ntmps20
  go_wp2_with fail
  refine (refint_any HS.out.rd).mono ?_
  rintro e w2 ⟨rfl, hr, hM⟩
  have HS2 := Lib.hid (HS.out.toR hM hr)
  clear hr hM HS
  have HS := HS2
  clear HS2
  generalize w.heap.size + 2 = tb at *
  generalize RS.int ⟨b, 0⟩ = R1 at *
  obtain ⟨t, s1⟩ := R1
  simp only at *
  have cb := (refs_cells HS.out.rd).1
  have ht : (s1.e == 0) = true := by simpa using h1
  have hz : (t : Int) = 2 ∨ (t : Int) = 6 ∨ (t : Int) = 8 ∨ (t : Int) = 9 := by
    unfold isOld at ho
    simp only [Bool.or_eq_true, decide_eq_true_eq] at ho
    omega
  clear h1 ho
  generalize (t : Int) = z at *
  rcases hz with rfl | rfl | rfl | rfl
  all_goals
    go_wp2_with (first
      | ((with_reducible refine wpList_load_blk ?_ 26 (.tmp 5) ?_ (w.heap.size + 1) ?_ zC 26 _ HS.out.f Tryd.underlying26 ?_ size26z ?_); (· exact rfl); (· exact rfl); (· exact rfl); (· exact rfl))
      | ((with_reducible refine wpList_store_blk ?_ 26 (.tmp 2) (.tmp 39) ?_ w.heap.size ?_ zC zC ?_ 26 HS.out.res size26z ?_ zC_one ?_); (· exact rfl); (· exact rfl); (· exact rfl); (· exact rfl); (· exact rfl); intro wz hBz hMz)
      | fail)
    refine bodyPost_ret (v := .tuple #[.agg zC, .int .i64 ((0 : Nat) : Int), .int .i64 3]) ?_ rfl ?_
    · exact next_run Tryd.results20 rfl rfl rfl hBz size26z
    · rw [HRR.out]
      exact next_zero (HS.out.mod.trans' hMz (fun i hi e => by omega))
set_option maxHeartbeats 4000000 in
set_option maxRecDepth 10000 in
theorem rnext_short {w : World} {v : Value} {b : List UInt8} (h : Byts w v b) (hl : (b.length : Int) ≤ 5000) (h1 : (RS.int ⟨b, 0⟩).2.e = 0) (ho : isOld (RS.int ⟨b, 0⟩).1 = false) (h3 : ((RS.int ⟨b, 0⟩).2.int.2.bytes (RS.int ⟨b, 0⟩).2.int.1).2.e ≠ 0) : Calls Tryd.prog 20 #[v] w (NextR w (nextL b)) := by
  obtain ⟨R, hR⟩ : ∃ x, x = nextL b := ⟨_, rfl⟩
  rw [← hR]
  have HRR : Hid (R = (HF.zero, 0, 2)) := hR.trans (nextL_short ho h3)
  clear hR
  obtain ⟨a, cap, rfl, _⟩ := byts_val h
  obtain ⟨bl, hbl⟩ : ∃ x, x = b.length := ⟨_, rfl⟩
  rw [← hbl] at h ⊢
  have HS := Lib.hid (rx_made h hbl hl)
  have HBL := Lib.hid hbl
  clear h hl hbl
  have HB3 := Lib.hid h3
  clear h3
  go_enter Tryd.func20, Tryd.ntmps20
  go_wp2_with fail
  refine (refint_any HS.out.rd).mono ?_
  rintro e w2 ⟨rfl, hr, hM⟩
  have HS2 := Lib.hid (HS.out.toR hM hr)
  clear hr hM HS
  have HS := HS2
  clear HS2
  generalize w.heap.size + 2 = tb at *
  generalize RS.int ⟨b, 0⟩ = R1 at *
  obtain ⟨t, s1⟩ := R1
  simp only at *
  have cb := (refs_cells HS.out.rd).1
  have ht : (s1.e == 0) = true := by simpa using h1
  have hz : ¬ (t : Int) = 2 ∧ ¬ (t : Int) = 6 ∧ ¬ (t : Int) = 8 ∧ ¬ (t : Int) = 9 := by
    unfold isOld at ho
    simp only [Bool.or_eq_false_iff, decide_eq_false_iff_not] at ho
    omega
  have t2 : ((t : Int) == 2) = false := by simpa using hz.1
  have t6 : ((t : Int) == 6) = false := by simpa using hz.2.1
  have t8 : ((t : Int) == 8) = false := by simpa using hz.2.2.1
  have t9 : ((t : Int) == 9) = false := by simpa using hz.2.2.2
  clear h1 ho hz
  generalize (t : Int) = z at *
  go_wp2_with fail
  refine (refint_any HS.out.rd).mono ?_
  rintro e w3 ⟨rfl, hr, hM⟩
  have HS2 := Lib.hid (HS.out.toR hM hr)
  clear hr hM HS cb
  have HS := HS2
  clear HS2
  go_wp2_with fail
  refine (refbytes_any s1.int.1 HS.out.rd).mono ?_
  rintro e w4 ⟨vb, rfl, hob, hr, hM⟩
  have HS2 := Lib.hid (HS.out.toR hM hr)
  have HW := Lib.hid (Nat.le_trans HS.out.mod.size (Nat.le_refl _))
  clear hr hM HS
  have HS := HS2
  clear HS2
  obtain ⟨ba, bc, rfl, _⟩ := byts_val hob.byts
  have HOB := Lib.hid hob
  clear hob
  generalize s1.int = R2 at *
  generalize R2.2.bytes R2.1 = R3 at *
  generalize hnb : R3.1.length = nb at *
  have HNB := Lib.hid hnb
  clear hnb
  have cb := (refs_cells HS.out.rd).1
  have ht2 : (R3.2.e != 0) = true := by simpa using HB3.out
  go_wp2_with (first
    | ((with_reducible refine wpList_load_blk ?_ 26 (.tmp 5) ?_ (w.heap.size + 1) ?_ zC 26 _ HS.out.f Tryd.underlying26 ?_ size26z ?_); (· exact rfl); (· exact rfl); (· exact rfl); (· exact rfl))
    | ((with_reducible refine wpList_store_blk ?_ 26 (.tmp 2) (.tmp 50) ?_ w.heap.size ?_ zC zC ?_ 26 HS.out.res size26z ?_ zC_one ?_); (· exact rfl); (· exact rfl); (· exact rfl); (· exact rfl); (· exact rfl); intro wz hBz hMz)
    | fail)
  refine bodyPost_ret (v := .tuple #[.agg zC, .int .i64 ((0 : Nat) : Int), .int .i64 2]) ?_ rfl ?_
  · exact next_run Tryd.results20 rfl rfl rfl hBz size26z
  · rw [HRR.out]
    exact next_zero (HS.out.mod.trans' hMz (fun i hi e => by omega))
end Go.Proofs.YtcnpiclpdgkngaaDoor
