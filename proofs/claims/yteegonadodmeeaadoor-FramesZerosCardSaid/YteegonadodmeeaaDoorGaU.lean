/- Bytes 0 are read: peek, zeros. -/
import Derived.Test.YteegonadodmeeaaDoorGaS
namespace Go.Proofs.YteegonadodmeeaaDoor
open Go.RowKit

theorem sizeRd (a b : Value) : (Tryd.prog.info? 76).map (·.size) = some (#[a, b] : Array Value).size := by show _ = some 2; kernel_rfl
def zeroAt (l : List UInt8) : Bool := decide (l.head? = some 0)
theorem byte_head {c : UInt8} {l : List UInt8} : RS.byte ⟨c :: l, 0⟩ = (c, ⟨l, 0⟩) := by simp [RS.byte, RS.bytes]
set_option maxHeartbeats 2000000 in
set_option maxRecDepth 10000 in
theorem peek_any {w : World} {rb : Nat} {s : RS} (h : Rdr w rb s) : Calls Tryd.prog 100 #[.pointer (some ⟨rb, 0, none⟩)] w fun e w' => e = .returned (.bool (zeroAt s.l)) ∧ Mod (fun _ => False) w w' := by
  have HR := Lib.hid h
  obtain ⟨h0, a, cap, hb, h3, h4, h5, h6, h7⟩ := h
  have HB := Lib.hid hb
  have HCOPY : Hid (∀ X cb, Mod (fun _ => False) w X → Blk X cb #[.slice a s.l.length cap, .int .i64 s.e] 76 → Rdr X cb s) := fun X cb hX hc => ⟨h0, a, cap, hc, h3, h4, h5, h6, fun j x hj => by
    obtain ⟨bb, off, cs, rfl, hbb, hcs⟩ := h7 j x hj
    exact ⟨bb, off, cs, rfl, hX.blk hbb (fun h => h), hcs⟩⟩
  cases hl : s.l with
  | nil =>
    have hlen : s.l.length = 0 := by rw [hl]; rfl
    have HLEN := Lib.hid hlen
    rw [show zeroAt [] = false from rfl]
    clear hb h0 h3 h4 h5 h6 h7 hl hlen HCOPY
    go_enter Tryd.func100, Tryd.ntmps100
    go_wp2_with (first
      | ((with_reducible refine wpList_load_blk ?_ 76 (.tmp 5) ?_ rb ?_ #[.slice a s.l.length cap, .int .i64 s.e] 76 _ HB.out Tryd.underlying76 ?_ (sizeRd _ _) ?_); (· exact rfl); (· exact rfl); (· exact rfl); (· exact rfl))
      | ((with_reducible refine wpList_store_blk ?_ 76 (.tmp 3) (.tmp 6) ?_ w.heap.size ?_ #[.slice none 0 0, .int .i64 0] #[.slice a s.l.length cap, .int .i64 s.e] ?_ 76 (Blk.new _ _ _) (sizeRd _ _) ?_ ?_ ?_); (· exact rfl); (· exact rfl); (· exact rfl); (· exact rfl); (· exact rfl); (· intro v hv; simp at hv; rcases hv with rfl | rfl <;> rfl); intro wx hBx hMx; have HMx := Lib.hid (((Mod.refl (fun _ => False) w).alloc _).trans' hMx (fun i hi e => by omega)); clear hBx hMx)
      | fail)
    refine (left_any (HR.out.kept HMx.out (fun _ _ h => h))).mono ?_
    rintro e w2 ⟨rfl, rfl⟩
    rw [HLEN.out]
    go_wp2_with fail
    go_ret
    exact ⟨rfl, HMx.out⟩
  | cons c l =>
    have he : s.e = 0 := by
      apply Classical.byContradiction
      intro h
      rw [h0 h] at hl
      cases hl
    have hse : s = ⟨c :: l, 0⟩ := by cases s; simp_all
    have hby : s.byte = (c, ⟨l, 0⟩) := by rw [hse]; exact byte_head
    have HBY := Lib.hid hby
    have hpos : 0 < s.l.length := by rw [hl]; simp
    have hposi : (0 : Int) < s.l.length := by omega
    rw [show zeroAt (c :: l) = decide ((c.toNat : Int) = 0) by
      unfold zeroAt
      rw [Bool.eq_iff_iff]
      simp only [List.head?_cons, Option.some.injEq, decide_eq_true_eq]
      constructor
      · rintro rfl; rfl
      · intro h; exact UInt8.toNat_inj.1 (by simpa using h)]
    clear hb h0 h3 h4 h5 h6 h7 hl he hse hby
    go_enter Tryd.func100, Tryd.ntmps100
    go_wp2_with (first
      | ((with_reducible refine wpList_load_blk ?_ 76 (.tmp 5) ?_ rb ?_ #[.slice a s.l.length cap, .int .i64 s.e] 76 _ HB.out Tryd.underlying76 ?_ (sizeRd _ _) ?_); (· exact rfl); (· exact rfl); (· exact rfl); (· exact rfl))
      | ((with_reducible refine wpList_store_blk ?_ 76 (.tmp 3) (.tmp 6) ?_ w.heap.size ?_ #[.slice none 0 0, .int .i64 0] #[.slice a s.l.length cap, .int .i64 s.e] ?_ 76 (Blk.new _ _ _) (sizeRd _ _) ?_ ?_ ?_); (· exact rfl); (· exact rfl); (· exact rfl); (· exact rfl); (· exact rfl); (· intro v hv; simp at hv; rcases hv with rfl | rfl <;> rfl); intro wx hBx hMx; have HMx := Lib.hid (((Mod.refl (fun _ => False) w).alloc _).trans' hMx (fun i hi e => by omega)); have HBx := Lib.hid hBx; clear hBx hMx)
      | fail)
    refine (left_any (HR.out.kept HMx.out (fun _ _ h => h))).mono ?_
    rintro e w2 ⟨rfl, rfl⟩
    have HRC := Lib.hid (HCOPY.out wx w.heap.size HMx.out HBx.out)
    clear HCOPY
    generalize s.l.length = ln at *
    go_wp2_with fail
    refine (byte_any HRC.out).mono ?_
    rintro e w3 ⟨rfl, hr, hM⟩
    rw [HBY.out]
    have HM3 : Hid (Mod (fun _ => False) w w3) := HMx.out.trans' hM (fun i hi e => by omega)
    clear hr hM
    go_wp2_with fail
    all_goals go_ret
    all_goals refine ⟨ret_bool ?_, HM3.out⟩
    all_goals (rw [Bool.eq_iff_iff]; simp_all)
theorem zeroN_le : ∀ (n : Nat) (l : List UInt8), zeroN n l ≤ n ∧ zeroN n l ≤ l.length
  | 0, l => by simp [zeroN]
  | n + 1, [] => by simp [zeroN]
  | n + 1, c :: l => by
    have := zeroN_le n l
    unfold zeroN
    split
    · simp; omega
    · simp
theorem zeroN_step {n : Nat} {l : List UInt8} (h : zeroAt l = true) : zeroN (n + 1) l = zeroN n (l.drop 1) + 1 ∧ ∃ t, l = 0 :: t := by
  unfold zeroAt at h
  cases l with
  | nil => simp at h
  | cons c t =>
    simp at h
    subst h
    exact ⟨by simp [zeroN], t, rfl⟩
theorem zeroN_stop {n : Nat} {l : List UInt8} (h : zeroAt l = false) : zeroN n l = 0 := by
  unfold zeroAt at h
  cases n with
  | zero => rfl
  | succ n =>
    cases l with
    | nil => rfl
    | cons c t =>
      simp at h
      unfold zeroN
      rw [if_neg h]
/-- What zeros leaves. -/
def ZerosR (w : World) (rb : Nat) (s : RS) : Ending → World → Prop := fun e w' => e = .returned (.int .u64 (zeroN 1199 s.l : Int)) ∧ Rdr w' rb ⟨s.l.drop (zeroN 1199 s.l), s.e⟩ ∧ Mod (fun k => k = rb) w w'
theorem RS.drop0 (s : RS) : (⟨s.l.drop 0, s.e⟩ : RS) = s := by cases s; rfl
set_option maxHeartbeats 4000000 in
set_option maxRecDepth 10000 in
theorem zeros_any {w : World} {rb : Nat} {s : RS} (h : Rdr w rb s) : Calls Tryd.prog 95 #[.pointer (some ⟨rb, 0, none⟩)] w (ZerosR w rb s) := by
  have HR := Lib.hid h
  clear h
  go_enter Tryd.func95, Tryd.ntmps95
  go_wp2
  go_loopw [3] (fun s3 wr => ∃ k : Nat, k ≤ 1199 ∧ s3 = .int .u64 k ∧ Hid (zeroN 1199 s.l = k + zeroN (1199 - k) (s.l.drop k) ∧ Rdr wr rb ⟨s.l.drop k, s.e⟩ ∧ Mod (fun k => k = rb) w wr)) (fun s3 _ => 1199 - (intOf s3).toNat)
  case atStart => exact ⟨0, Nat.zero_le _, rfl, ⟨by simp, by rw [RS.drop0]; exact HR.out, Mod.refl _ _⟩⟩
  case round =>
    obtain ⟨k, hk, rfl, HJ⟩ := hrel
    have hki : (k : Int) ≤ 1199 := by omega
    by_cases hlt : (k : Int) < 1199
    · cases hz : zeroAt (s.l.drop k)
      · have HZ := Lib.hid hz
        clear hz
        go_wp2_with fail
        refine (peek_any HJ.out.2.1).mono ?_
        rintro e w2 ⟨rfl, hM2⟩
        rw [HZ.out]
        have HM2 := Lib.hid hM2
        clear hM2
        have HN : Hid (zeroN 1199 s.l = k) := by show _ = _; rw [HJ.out.1, zeroN_stop HZ.out]; rfl
        go_wp2_with fail
        go_ret
        refine ⟨by rw [HN.out]; rfl, by rw [HN.out]; exact HJ.out.2.1.kept HM2.out (fun _ _ h => h), HJ.out.2.2.trans (HM2.out.mono (fun _ _ h => h.elim))⟩
      · have HZ := Lib.hid hz
        clear hz
        go_wp2_with fail
        refine (peek_any HJ.out.2.1).mono ?_
        rintro e w2 ⟨rfl, hM2⟩
        rw [HZ.out]
        have HM2 := Lib.hid hM2
        clear hM2
        go_wp2_with fail
        refine (byte_any (HJ.out.2.1.kept HM2.out (fun _ _ h => h))).mono ?_
        rintro e w3 ⟨rfl, hr3, hM3⟩
        obtain ⟨hst, t, ht⟩ := zeroN_step (n := 1199 - (k + 1)) HZ.out
        have he : s.e = 0 := by
          obtain ⟨h0, _⟩ := HJ.out.2.1
          apply Classical.byContradiction
          intro h
          have := h0 h
          rw [ht] at this
          cases this
        have hdr : s.l.drop (k + 1) = t := by rw [← List.drop_drop, ht]; rfl
        have hr3' : Rdr w3 rb ⟨s.l.drop (k + 1), s.e⟩ := by
          have e1 : (RS.byte ⟨s.l.drop k, s.e⟩).2 = ⟨t, 0⟩ := by rw [ht, he, byte_head]
          rw [e1] at hr3
          rw [hdr, he]
          exact hr3
        have hN : zeroN 1199 s.l = (k + 1) + zeroN (1199 - (k + 1)) (s.l.drop (k + 1)) := by
          rw [HJ.out.1, show 1199 - k = 1199 - (k + 1) + 1 by omega, hst, List.drop_drop]
          omega
        have HNEW : Hid (zeroN 1199 s.l = (k + 1) + zeroN (1199 - (k + 1)) (s.l.drop (k + 1)) ∧ Rdr w3 rb ⟨s.l.drop (k + 1), s.e⟩ ∧ Mod (fun k => k = rb) w w3) := ⟨hN, hr3', (HJ.out.2.2.trans (HM2.out.mono (fun _ _ h => h.elim))).trans hM3⟩
        generalize hbv : ((RS.byte ⟨s.l.drop k, s.e⟩).1.toNat : Int) = bvv at *
        clear hbv hst ht he hdr hr3 hr3' hN hM3
        go_wp2_with fail
        go_roundw
        case rel => exact ⟨k + 1, by omega, by go_num, HNEW⟩
        case measure => simp [intOf]; omega
    · have hk9 : k = 1199 := by omega
      have HN : Hid (zeroN 1199 s.l = k) := by show _ = _; rw [HJ.out.1, hk9]; simp [zeroN]
      have hd : decide ((k : Int) < 1199) = false := decide_eq_false hlt
      clear hk9
      go_wp2_with fail
      go_ret
      exact ⟨by rw [HN.out]; rfl, by rw [HN.out]; exact HJ.out.2.1, HJ.out.2.2⟩
end Go.Proofs.YteegonadodmeeaaDoor
