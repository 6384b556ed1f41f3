/- The program's Parse of short headers. -/
import Derived.Test.YtolbeamphmoimaaDoorHdN
import Derived.IntWalk
namespace Go.Proofs.YtolbeamphmoimaaDoor
open Go.RowKit

set_option maxHeartbeats 4000000 in
set_option maxRecDepth 10000 in
theorem parse_short {w : World} {v : Value} {l : List UInt8} {c : UInt8} {s1 : RS} (h : Byts w v l) (hl : (l.length : Int) ≤ 5000) (h0 : RS.byte ⟨l, 0⟩ = (c, s1)) {d ct : List UInt8} {s2 s3 : RS} (hp : s1.e = 0 → ¬ c.toNat / 64 % 2 = 0) (h128 : ¬ 128 ≤ c.toNat) (h8 : c.toNat / 8 % 8 = 0) (y1 : s1.bytes 8 = (d, s2)) (y2 : s2.bytes (c.toNat % 4 + 1) = (ct, s3)) :
    Calls Tryd.prog 19 #[v] w (ParseOut w (finL ⟨false, decide (c.toNat / 4 % 2 = 1), 0, 0, d, [], [], ct, (s3.l.length : Int)⟩ ((l.length : Int) - s3.l.length) s3.e)) := by
  have H := Lib.hid h
  have HL := Lib.hid hl
  obtain ⟨a0, c0, rfl, _⟩ := byts_val h
  have H0 := Lib.hid h0
  have hc := c.toNat_lt
  have hci : (c.toNat : Int) < 256 := by omega
  obtain ⟨t3, t64, t128, t56, t4, t12, t16⟩ := bits_and c
  have HP : Hid (s1.e = 0 → (bits .and .u8 (c.toNat : Int) 64 == 0) = false) := fun e => by rw [t64, decide_eq_false (hp e)]
  clear t64 hp
  rw [decide_eq_false h128] at t128
  rw [decide_eq_true h8] at t56
  have Y1 := Lib.hid y1
  have y1l : (d.length : Int) ≤ 8 := by have := bytes_le s1 8; rw [y1] at this; simp only at this; omega
  have y2l : (ct.length : Int) ≤ 4 := by have := bytes_le s2 (c.toNat % 4 + 1); rw [y2] at this; simp only at this; omega
  have Y2 := Lib.hid y2
  have HB := Lib.hid (fun w' (hM : Mod (fun _ => False) w w') => read_any (H.out.kept hM (fun _ _ h => h)) (by omega))
  clear h hl h0 hc h128 h8 t12 t16 y1 y2
  by_cases he : s1.e = 0
  case' pos => have tb : (s1.e == 0) = true := by simp [he]
  case' pos => have t64 := HP.out he
  case' neg => have tb : (s1.e == 0) = false := by simp [he]
  all_goals
    clear he
    go_enter Tryd.func19, Tryd.ntmps19
    go_wp2_with fail
    refine wp_scope_fwd ?_
    go_wp2_with fail
    refine (HB.out _ (((Mod.refl _ w).alloc _).alloc _)).mono ?_
    rintro e w1 ⟨rb, rfl, hrb, hr, hM1⟩
    have hP := Lib.hid (ps_new hr (by simpa using hrb) hM1)
    clear hr hM1 hrb
    go_wp2_with fail
    refine (byte_any hP.out.r).mono ?_
    rintro e w2 ⟨rfl, hr2, hM2⟩
    rw [H0.out] at hr2 ⊢
    simp only at hr2 ⊢
    have hP2 := Lib.hid (hP.out.step hr2 hM2)
    clear hr2 hM2
    go_wp2_with fail
    refine (bad_any hP2.out.r).mono ?_
    rintro e w3 ⟨rfl, rfl⟩
    obtain ⟨c0, c1, c2, c3, c4, c5, c6, c7, c8, c9⟩ := hP2.out.cells
    obtain ⟨g0, g1, g2, g3, g4, g5, g6, g7, g8⟩ := hP2.out.frozen
    go_wp2_with fail
    have hP3 := Lib.hid (hP2.out.put0 (.bool false))
    refine (bytes_any 8 hP3.out.r).mono ?_
    rintro e w3 ⟨v3, rfl, ho3, hr3, hM3⟩
    rw [Y1.out] at ho3 hr3
    simp only at ho3 hr3
    obtain ⟨a3, cp3, rfl, _⟩ := byts_val ho3.byts
    have hO3 := Lib.hid (hP3.out.own_new ho3)
    have hP4 := Lib.hid (hP3.out.step hr3 hM3)
    clear ho3 hr3 hM3
    clear c0 c1 c2 c3 c4 c5 c6 c7 c8 c9 g0 g1 g2 g3 g4 g5 g6 g7 g8
    obtain ⟨c0, c1, c2, c3, c4, c5, c6, c7, c8, c9⟩ := hP4.out.cells
    obtain ⟨g0, g1, g2, g3, g4, g5, g6, g7, g8⟩ := hP4.out.frozen
    go_wp2_with fail
    have hP5 := Lib.hid ((hP4.out.put1 (.bool (decide (c.toNat / 4 % 2 = 1)))).put4 (.slice a3 d.length cp3))
    have hO5 := Lib.hid (own_h (hb := w.heap.size + 1) (i := 4) (u := .slice a3 d.length cp3) (own_h (hb := w.heap.size + 1) (i := 1) (u := .bool (decide (c.toNat / 4 % 2 = 1))) hO3.out hP4.out.rB) hP4.out.rB)
    have hby := bytes_any (c.toNat % 4 + 1) hP5.out.r
    rw [show (((c.toNat % 4 + 1 : Nat)) : Int) = (c.toNat : Int) % 4 + 1 by omega] at hby
    refine hby.mono ?_
    rintro e w5 ⟨v5, rfl, ho5, hr5, hM5⟩
    rw [Y2.out] at ho5 hr5
    simp only at ho5 hr5
    obtain ⟨a5, cp5, rfl, _⟩ := byts_val ho5.byts
    have hO6 := Lib.hid (hP5.out.own_new ho5)
    have hO7 := Lib.hid (own_r hO5.out hM5)
    have hP6 := Lib.hid (hP5.out.step hr5 hM5)
    clear ho5 hr5 hM5 hby
    clear c0 c1 c2 c3 c4 c5 c6 c7 c8 c9 g0 g1 g2 g3 g4 g5 g6 g7 g8
    obtain ⟨c0, c1, c2, c3, c4, c5, c6, c7, c8, c9⟩ := hP6.out.cells
    obtain ⟨g0, g1, g2, g3, g4, g5, g6, g7, g8⟩ := hP6.out.frozen
    go_wp2_with fail
    have hP7 := Lib.hid (hP6.out.put7 (.slice a5 ct.length cp5))
    refine (left_any hP7.out.r).mono ?_
    rintro e w7 ⟨rfl, rfl⟩
    have hlr := Lib.hid (rdr_len hP7.out.r)
    have hP8 := Lib.hid (hP7.out.put8 (.int .i64 (s3.l.length : Int)))
    have hO8 := Lib.hid (own_h (hb := w.heap.size + 1) (i := 8) (u := .int .i64 (s3.l.length : Int)) (own_h (hb := w.heap.size + 1) (i := 7) (u := .slice a5 ct.length cp5) hO7.out hP6.out.rB) hP6.out.rB)
    have hO9 := Lib.hid (own_h (hb := w.heap.size + 1) (i := 8) (u := .int .i64 (s3.l.length : Int)) (own_h (hb := w.heap.size + 1) (i := 7) (u := .slice a5 ct.length cp5) hO6.out hP6.out.rB) hP6.out.rB)
    go_wp2_with ((first | (with_reducible refine wp_label ?_) | ((with_reducible refine wp_goto ?_); refine fwd_goto 0 rfl ?_) | ((with_reducible refine wp_goto ?_); refine fwd_goto 1 rfl ?_)))
    clear c0 c1 c2 c3 c4 c5 c6 c7 c8 c9 g0 g1 g2 g3 g4 g5 g6 g7 g8
    refine (bad_any hP8.out.r).mono ?_
    rintro e w8 ⟨rfl, rfl⟩
    have hl1 := HL.out
    have hz1 : IntKind.i64.wrap ((l.length : Int) - s3.l.length) = (l.length : Int) - s3.l.length := by have := hlr.out; exact IntWalk.i64_in _ (by omega)
    have HV := hdv_mk false (decide (c.toNat / 4 % 2 = 1)) 0 0 d [] [] ct (s3.l.length : Int) (hO8.out.byts) (Sl.nil _ _) (Sl.nil _ _) (hO9.out.byts) (by decide) (by have := y1l; omega) (by decide) (by decide) (by have := y2l; omega) (by decide) ⟨by omega, Int.le_trans hlr.out (by decide)⟩
    have HEND := Lib.hid (fun X (hM : Mod (fun _ => False) _ X) => end_on ((l.length : Int) - s3.l.length) HV hM)
    have HLEFT := Lib.hid (fun X (hM : Mod (fun _ => False) _ X) => left_any (hP8.out.keep hM).r)
    unfold hdV at HEND
    simp only at HEND
    clear HV hl1
    by_cases hz : s3.e = 0
    · have tz : (s3.e != 0) = false := by simp [hz]
      have tz2 : (s3.e == 0) = true := by simp [hz]
      obtain ⟨c0, c1, c2, c3, c4, c5, c6, c7, c8, c9⟩ := hP8.out.cells
      obtain ⟨g0, g1, g2, g3, g4, g5, g6, g7, g8⟩ := hP8.out.frozen
      cases hright : rightB ⟨false, decide (c.toNat / 4 % 2 = 1), 0, 0, d, [], [], ct, (s3.l.length : Int)⟩
      · have HF : Hid (finL ⟨false, decide (c.toNat / 4 % 2 = 1), 0, 0, d, [], [], ct, (s3.l.length : Int)⟩ ((l.length : Int) - s3.l.length) s3.e = (Hd.zero, 0, 3)) := by show _ = _; simp [finL, hz, hright]
        unfold endL at HEND
        simp only [hright, Bool.false_eq_true, if_false, hdV, Hd.zero, Int.natCast_zero] at HEND
        clear hz hright
        go_wp2_with fail
        go_region_with (first
          | (go_at_call 33; refine (HLEFT.out _ ?_).mono ?_; (first | exact Mod.refl _ _ | exact (Mod.refl _ _).drew | exact (Mod.refl _ _).drew.drew); rintro e w9 ⟨rfl, rfl⟩)
          | (go_at_call 36; (first | rw [hz1] | skip); refine (HEND.out _ ?_).mono ?_; (first | exact Mod.refl _ _ | exact (Mod.refl _ _).drew | exact (Mod.refl _ _).drew.drew); rintro e w9 ⟨rfl, hM9⟩; have hP9 := Lib.hid (hP8.out.keep hM9); obtain ⟨⟨r0, r1, r2, r3, r4, r5, r6, r7, r8, r9⟩, ⟨f0, f1, f2, f3, f4, f5, f6, f7, f8⟩⟩ := hP9.out.rcells))
        all_goals
          go_wp2_with fail
          refine noGoto_ret ?_
          have hlt9 : w.heap.size < rb := Nat.lt_trans hP9.out.hB hP9.out.rB
          rw [set9_eq]
          have HB2 := blk_set9 (.bool false) (.bool false) (.int .i64 0) (.int .u32 0) (.slice none 0 0) (.slice none 0 0) (.slice none 0 0) (.slice none 0 0) (.int .i64 0) hP9.out.res
          have hM2 := mod_set9 (b := w.heap.size) (.bool false) (.bool false) (.int .i64 0) (.int .u32 0) (.slice none 0 0) (.slice none 0 0) (.slice none 0 0) (.slice none 0 0) (.int .i64 0) hP9.out.mod (fun _ => Nat.le_refl _)
          obtain ⟨q0, q1, q2, q3, q4, q5, q6, q7, q8, _⟩ := hd_cells HB2
          refine bodyPost_ret (v := .tuple #[_, _, _]) ?_ rfl (parseOut_of HF.out ⟨.slice none 0 0, .slice none 0 0, .slice none 0 0, .slice none 0 0, rfl, zero_hdv _, mod_fin hM2, zero_hdo _ _⟩)
          simp [results, Tryd.results19, go_sem, q0, q1, q2, q3, q4, q5, q6, q7, q8, Hd.zero, hdV]
      · have HF : Hid (finL ⟨false, decide (c.toNat / 4 % 2 = 1), 0, 0, d, [], [], ct, (s3.l.length : Int)⟩ ((l.length : Int) - s3.l.length) s3.e = (⟨false, decide (c.toNat / 4 % 2 = 1), 0, 0, d, [], [], ct, (s3.l.length : Int)⟩, (l.length : Int) - s3.l.length, 0)) := by show _ = _; simp [finL, hz, hright]
        unfold endL at HEND
        simp only [hright, if_true, hdV] at HEND
        clear hz hright
        go_wp2_with fail
        go_region_with (first
          | (go_at_call 33; refine (HLEFT.out _ ?_).mono ?_; (first | exact Mod.refl _ _ | exact (Mod.refl _ _).drew | exact (Mod.refl _ _).drew.drew); rintro e w9 ⟨rfl, rfl⟩)
          | (go_at_call 36; (first | rw [hz1] | skip); refine (HEND.out _ ?_).mono ?_; (first | exact Mod.refl _ _ | exact (Mod.refl _ _).drew | exact (Mod.refl _ _).drew.drew); rintro e w9 ⟨rfl, hM9⟩; have hP9 := Lib.hid (hP8.out.keep hM9); obtain ⟨⟨r0, r1, r2, r3, r4, r5, r6, r7, r8, r9⟩, ⟨f0, f1, f2, f3, f4, f5, f6, f7, f8⟩⟩ := hP9.out.rcells))
        all_goals
          go_wp2_with fail
          refine noGoto_ret ?_
          have hlt9 : w.heap.size < rb := Nat.lt_trans hP9.out.hB hP9.out.rB
          rw [set9_eq]
          have HB2 := blk_set9 (.bool false) (.bool (decide (c.toNat / 4 % 2 = 1))) (.int .i64 0) (.int .u32 0) (.slice a3 d.length cp3) (.slice none 0 0) (.slice none 0 0) (.slice a5 ct.length cp5) (.int .i64 (s3.l.length : Int)) hP9.out.res
          have hM2 := mod_set9 (b := w.heap.size) (.bool false) (.bool (decide (c.toNat / 4 % 2 = 1))) (.int .i64 0) (.int .u32 0) (.slice a3 d.length cp3) (.slice none 0 0) (.slice none 0 0) (.slice a5 ct.length cp5) (.int .i64 (s3.l.length : Int)) hP9.out.mod (fun _ => Nat.le_refl _)
          obtain ⟨q0, q1, q2, q3, q4, q5, q6, q7, q8, _⟩ := hd_cells HB2
          refine bodyPost_ret (v := .tuple #[_, _, _]) ?_ rfl (parseOut_of HF.out ⟨.slice a3 d.length cp3, .slice none 0 0, .slice none 0 0, .slice a5 ct.length cp5, rfl, (hdv_mk false (decide (c.toNat / 4 % 2 = 1)) 0 0 d [] [] ct (s3.l.length : Int) (own_fin hO8.out hM9 hlt9 (.bool false) (.bool (decide (c.toNat / 4 % 2 = 1))) (.int .i64 0) (.int .u32 0) (.slice a3 d.length cp3) (.slice none 0 0) (.slice none 0 0) (.slice a5 ct.length cp5) (.int .i64 (s3.l.length : Int))).byts (Sl.nil _ _) (Sl.nil _ _) (own_fin hO9.out hM9 hlt9 (.bool false) (.bool (decide (c.toNat / 4 % 2 = 1))) (.int .i64 0) (.int .u32 0) (.slice a3 d.length cp3) (.slice none 0 0) (.slice none 0 0) (.slice a5 ct.length cp5) (.int .i64 (s3.l.length : Int))).byts (by decide) (by have := y1l; omega) (by decide) (by decide) (by have := y2l; omega) (by decide) ⟨by omega, Int.le_trans hlr.out (by decide)⟩), mod_fin hM2, ⟨((own_fin hO8.out hM9 hlt9 (.bool false) (.bool (decide (c.toNat / 4 % 2 = 1))) (.int .i64 0) (.int .u32 0) (.slice a3 d.length cp3) (.slice none 0 0) (.slice none 0 0) (.slice a5 ct.length cp5) (.int .i64 (s3.l.length : Int))).mono (by omega)), (OwnB.nil _ _), (OwnB.nil _ _), ((own_fin hO9.out hM9 hlt9 (.bool false) (.bool (decide (c.toNat / 4 % 2 = 1))) (.int .i64 0) (.int .u32 0) (.slice a3 d.length cp3) (.slice none 0 0) (.slice none 0 0) (.slice a5 ct.length cp5) (.int .i64 (s3.l.length : Int))).mono (by omega))⟩⟩)
          simp [results, Tryd.results19, go_sem, q0, q1, q2, q3, q4, q5, q6, q7, q8, hdV]
    · have tz : (s3.e != 0) = true := by simp [hz]
      have tz2 : (s3.e == 0) = false := by simp [hz]
      have HF : Hid (finL ⟨false, decide (c.toNat / 4 % 2 = 1), 0, 0, d, [], [], ct, (s3.l.length : Int)⟩ ((l.length : Int) - s3.l.length) s3.e = (Hd.zero, 0, s3.e)) := by show _ = _; simp [finL, hz]
      clear hz
      obtain ⟨⟨r0, r1, r2, r3, r4, r5, r6, r7, r8, r9⟩, ⟨f0, f1, f2, f3, f4, f5, f6, f7, f8⟩⟩ := hP8.out.rcells
      obtain ⟨c0, c1, c2, c3, c4, c5, c6, c7, c8, c9⟩ := hP8.out.cells
      obtain ⟨g0, g1, g2, g3, g4, g5, g6, g7, g8⟩ := hP8.out.frozen
      go_wp2_with ((first | (with_reducible refine wp_label ?_) | ((with_reducible refine wp_goto ?_); refine fwd_goto 0 rfl ?_) | ((with_reducible refine wp_goto ?_); refine fwd_goto 1 rfl ?_)))
      refine noGoto_ret ?_
      rw [set9_eq]
      have HB2 := blk_set9 (.bool false) (.bool false) (.int .i64 0) (.int .u32 0) (.slice none 0 0) (.slice none 0 0) (.slice none 0 0) (.slice none 0 0) (.int .i64 0) hP8.out.res
      have hM2 := mod_set9 (b := w.heap.size) (.bool false) (.bool false) (.int .i64 0) (.int .u32 0) (.slice none 0 0) (.slice none 0 0) (.slice none 0 0) (.slice none 0 0) (.int .i64 0) hP8.out.mod (fun _ => Nat.le_refl _)
      obtain ⟨q0, q1, q2, q3, q4, q5, q6, q7, q8, _⟩ := hd_cells HB2
      refine bodyPost_ret (v := .tuple #[_, _, _]) ?_ rfl (parseOut_of HF.out ⟨.slice none 0 0, .slice none 0 0, .slice none 0 0, .slice none 0 0, rfl, zero_hdv _, mod_fin hM2, zero_hdo _ _⟩)
      simp [results, Tryd.results19, go_sem, q0, q1, q2, q3, q4, q5, q6, q7, q8, Hd.zero, hdV]

end Go.Proofs.YtolbeamphmoimaaDoor
