/- The document's Parse of short headers. -/
import Derived.Test.YtolbeamphmoimaaDoorHeK
namespace Go.Proofs.YtolbeamphmoimaaDoor
open Go.RowKit

set_option maxHeartbeats 4000000 in
set_option maxRecDepth 10000 in
theorem rparse_short {w : World} {v : Value} {l : List UInt8} {c : UInt8} {s1 : RS} (h : Byts w v l) (hl : (l.length : Int) ≤ 5000) (hne : l ≠ []) (h0 : RS.byte ⟨l, 0⟩ = (c, s1)) {d ct : List UInt8} {s2 s3 : RS} (hp : ¬ c.toNat / 64 % 2 = 0) (h128 : ¬ 128 ≤ c.toNat) (h8 : c.toNat / 8 % 8 = 0) (y1 : s1.bytes 8 = (d, s2)) (y2 : s2.bytes (c.toNat % 4 + 1) = (ct, s3)) :
    Calls Tryd.prog 20 #[v] w (RefOut w (finL ⟨false, decide (c.toNat / 4 % 2 = 1), 0, 0, d, [], [], ct, (s3.l.length : Int)⟩ ((l.length : Int) - s3.l.length) s3.e)) := by
  have HL := Lib.hid hl
  obtain ⟨a0, cp0, rfl, _⟩ := byts_val h
  have HPN := Lib.hid (rp_new (nb := w.heap.size + 1 + 1) (rb := w.heap.size + 1 + 1 + 1) h hl hne rfl rfl)
  have H0 := Lib.hid h0
  have hpos := List.length_pos_iff.2 hne
  have hl0 : ¬ l.length = 0 := by omega
  have hc := c.toNat_lt
  have hci : (c.toNat : Int) < 256 := by omega
  have hw4 : IntKind.u64.wrap ((c.toNat : Int) % 4 + 1) = (c.toNat : Int) % 4 + 1 := IntWalk.u64_in _ (by omega)
  have t64 : (c.toNat : Int) / 64 % 2 = 1 := by omega
  have t128 : decide ((128 : Int) ≤ (c.toNat : Int)) = false := by simp; omega
  have t128b : (!decide ((128 : Int) ≤ (c.toNat : Int))) = true := by rw [t128]; rfl
  have t8 : (c.toNat : Int) / 8 % 8 = 0 := by omega
  have tph : ((c.toNat : Int) / 4 % 2 == 1) = decide (c.toNat / 4 % 2 = 1) := by rw [Bool.eq_iff_iff]; simp; omega
  have Y1 := Lib.hid y1
  have y1l : (d.length : Int) ≤ 8 := by have := bytes_le s1 8; rw [y1] at this; simp only at this; omega
  have y2l : (ct.length : Int) ≤ 4 := by have := bytes_le s2 (c.toNat % 4 + 1); rw [y2] at this; simp only at this; omega
  have Y2 := Lib.hid y2
  clear h hl hne h0 hc hp h128 h8 y1 y2
  go_enter Tryd.func20, Tryd.ntmps20
  go_wp2_with fail
  obtain ⟨w1, hw1⟩ : ∃ w1, w1 = (((w.alloc (.cells #[.bool false, .bool false, .int .i64 0, .int .u32 0, .slice none 0 0, .slice none 0 0, .slice none 0 0, .slice none 0 0, .int .i64 0] 25)).alloc (.cells #[.bool false, .bool false, .int .i64 0, .int .u32 0, .slice none 0 0, .slice none 0 0, .slice none 0 0, .slice none 0 0, .int .i64 0] 25)).alloc (.cells #[.bool false, .bool false, .int .i64 0, .int .u32 0, .slice none 0 0, .slice none 0 0, .slice none 0 0, .slice none 0 0, .int .i64 0] 25)).alloc (.cells #[.slice a0 l.length cp0, .int .i64 0, .int .i64 0] 58) := ⟨_, rfl⟩
  rw [← hw1] at HPN ⊢
  obtain ⟨rb, hrb⟩ : ∃ rb, rb = w.heap.size + 1 + 1 + 1 := ⟨_, rfl⟩
  rw [← hrb] at HPN ⊢
  obtain ⟨nb, hnb⟩ : ∃ nb, nb = w.heap.size + 1 + 1 := ⟨_, rfl⟩
  rw [← hnb] at HPN ⊢
  have hnb1 : ¬ nb = w.heap.size + 1 := by omega
  have hnb2 : ¬ w.heap.size + 1 = nb := by omega
  have hnb3 : ¬ rb = w.heap.size + 1 := by omega
  have hnb4 : ¬ w.heap.size + 1 = rb := by omega
  have hnb5 : ¬ rb = w.heap.size := by omega
  have hnb6 : ¬ w.heap.size = rb := by omega
  have hnb7 : ¬ nb = w.heap.size := by omega
  have hnb8 : ¬ w.heap.size = nb := by omega
  clear hw1 hrb hnb hpos hl0
  (with_reducible refine (refbyte_any HPN.out.r).mono ?_)
  rintro e w2 ⟨rfl, hr2, hM2⟩
  rw [H0.out] at hr2 ⊢
  simp only at hr2 ⊢
  have hP2 := Lib.hid (HPN.out.step hr2 hM2)
  clear hr2 hM2
  obtain ⟨c0, c1, c2, c3, c4, c5, c6, c7, c8, c9⟩ := hP2.out.cells
  obtain ⟨g0, g1, g2, g3, g4, g5, g6, g7, g8⟩ := hP2.out.frozen
  go_wp2_with fail
  have hP101 := Lib.hid ((hP2.out.put0 (.bool false)).put1 (.bool (decide (c.toNat / 4 % 2 = 1))))
  clear c0 c1 c2 c3 c4 c5 c6 c7 c8 c9 g0 g1 g2 g3 g4 g5 g6 g7 g8
  have hcb := refbytes_any 8 hP101.out.r
  rw [show (((8 : Nat)) : Int) = 8 from rfl] at hcb
  (with_reducible refine (hcb).mono ?_)
  rintro e w102 ⟨v105, rfl, ho106, hr103, hM104⟩
  rw [Y1.out] at ho106 hr103
  simp only at ho106 hr103
  obtain ⟨ad, cpd, rfl, _⟩ := byts_val ho106.byts
  have hO107 := Lib.hid (hP101.out.own_new ho106)
  have hP108 := Lib.hid (hP101.out.step hr103 hM104)
  clear hr103 hM104 ho106 hcb
  obtain ⟨c0, c1, c2, c3, c4, c5, c6, c7, c8, c9⟩ := hP108.out.cells
  obtain ⟨g0, g1, g2, g3, g4, g5, g6, g7, g8⟩ := hP108.out.frozen
  go_wp2_with fail
  have hP109 := Lib.hid (hP108.out.put4 (.slice ad d.length cpd))
  have hO110 := Lib.hid (own_h (hb := w.heap.size + 1) (i := 4) (u := (.slice ad d.length cpd)) hO107.out hP108.out.hB)
  clear c0 c1 c2 c3 c4 c5 c6 c7 c8 c9 g0 g1 g2 g3 g4 g5 g6 g7 g8
  have hcb := refbytes_any (c.toNat % 4 + 1) hP109.out.r
  rw [show (((c.toNat % 4 + 1 : Nat)) : Int) = (c.toNat : Int) % 4 + 1 by omega] at hcb
  (with_reducible refine (hcb).mono ?_)
  rintro e w111 ⟨v114, rfl, ho115, hr112, hM113⟩
  rw [Y2.out] at ho115 hr112
  simp only at ho115 hr112
  obtain ⟨ac, cpc, rfl, _⟩ := byts_val ho115.byts
  have hO116 := Lib.hid (own_r hO110.out hM113)
  have hO117 := Lib.hid (hP109.out.own_new ho115)
  have hP118 := Lib.hid (hP109.out.step hr112 hM113)
  clear hr112 hM113 ho115 hcb
  obtain ⟨c0, c1, c2, c3, c4, c5, c6, c7, c8, c9⟩ := hP118.out.cells
  obtain ⟨g0, g1, g2, g3, g4, g5, g6, g7, g8⟩ := hP118.out.frozen
  go_wp2_with fail
  have hP119 := Lib.hid (hP118.out.put7 (.slice ac ct.length cpc))
  have hO120 := Lib.hid (own_h (hb := w.heap.size + 1) (i := 7) (u := (.slice ac ct.length cpc)) hO116.out hP118.out.hB)
  have hO121 := Lib.hid (own_h (hb := w.heap.size + 1) (i := 7) (u := (.slice ac ct.length cpc)) hO117.out hP118.out.hB)
  clear c0 c1 c2 c3 c4 c5 c6 c7 c8 c9 g0 g1 g2 g3 g4 g5 g6 g7 g8
  (with_reducible refine (refs_left hP119.out.r).mono ?_)
  rintro e w123 ⟨⟨q, hq124⟩, rfl⟩
  have hP122 := Lib.hid (hP119.out.keep (Mod.ofHeap q hq124.symm))
  have hO125 := Lib.hid (hO120.out.keptF (Mod.ofHeap q hq124.symm))
  have hO126 := Lib.hid (hO121.out.keptF (Mod.ofHeap q hq124.symm))
  clear hq124
  have hP127 := Lib.hid (hP122.out.put8 (.int .i64 (s3.l.length : Int)))
  have hO128 := Lib.hid (own_h (hb := w.heap.size + 1) (i := 8) (u := (.int .i64 (s3.l.length : Int))) hO125.out hP122.out.hB)
  have hO129 := Lib.hid (own_h (hb := w.heap.size + 1) (i := 8) (u := (.int .i64 (s3.l.length : Int))) hO126.out hP122.out.hB)
  have hlr : Hid ((s3.l.length : Int) ≤ 5000) := (refs_cells hP127.out.r).choose_spec.2.2.2.1
  by_cases hz : s3.e = 0
  · have tz : (s3.e != 0) = false := by simp [hz]
    have hke := Lib.hid hz
    have HV := hdv_mk false (decide (c.toNat / 4 % 2 = 1)) 0 0 d [] [] ct (s3.l.length : Int) (hO128.out.byts) (Sl.nil _ _) (Sl.nil _ _) (hO129.out.byts) (by decide) (by have := y1l; omega) (by decide) (by decide) (by have := y2l; omega) (by decide) ⟨by omega, by have := hlr.out; omega⟩
    have HEND := Lib.hid (refright_any HV)
    unfold hdV at HEND
    simp only at HEND
    clear HV
    obtain ⟨c0, c1, c2, c3, c4, c5, c6, c7, c8, c9⟩ := hP122.out.cells
    obtain ⟨g0, g1, g2, g3, g4, g5, g6, g7, g8⟩ := hP122.out.frozen
    obtain ⟨ka, k1, k2, k3, k4, k5⟩ := refs_cells hP122.out.r
    cases hright : rightB ⟨false, decide (c.toNat / 4 % 2 = 1), 0, 0, d, [], [], ct, (s3.l.length : Int)⟩
    · have HF : Hid (finL ⟨false, decide (c.toNat / 4 % 2 = 1), 0, 0, d, [], [], ct, (s3.l.length : Int)⟩ ((l.length : Int) - s3.l.length) s3.e = (Hd.zero, 0, 3)) := by show _ = _; simp [finL, hz, hright]
      rw [hright] at HEND
      clear hz hright
      go_wp2_with fail
      refine HEND.out.mono ?_
      rintro e w9 ⟨rfl, hM9⟩
      have hP9 := Lib.hid (hP127.out.keep hM9)
      clear c0 c1 c2 c3 c4 c5 c6 c7 c8 c9 g0 g1 g2 g3 g4 g5 g6 g7 g8
      clear k1 k2 k3 k4 k5
      obtain ⟨⟨r0, r1, r2, r3, r4, r5, r6, r7, r8, r9⟩, ⟨f0, f1, f2, f3, f4, f5, f6, f7, f8⟩⟩ := hP9.out.rcells
      obtain ⟨n0, n1, n2, n3, n4, n5, n6, n7, n8, n9⟩ := hP9.out.ncells
      go_wp2_with fail
      rw [set9_eq]
      have HB2 := (blk_set9 (.bool false) (.bool false) (.int .i64 0) (.int .u32 0) (.slice none 0 0) (.slice none 0 0) (.slice none 0 0) (.slice none 0 0) (.int .i64 0) hP9.out.res)
      have hM2 := (mod_set9 (b := w.heap.size) (.bool false) (.bool false) (.int .i64 0) (.int .u32 0) (.slice none 0 0) (.slice none 0 0) (.slice none 0 0) (.slice none 0 0) (.int .i64 0) hP9.out.mod (fun _ => Nat.le_refl _))
      obtain ⟨q0, q1, q2, q3, q4, q5, q6, q7, q8, _⟩ := hd_cells HB2
      refine bodyPost_ret (v := .tuple #[_, _, _]) ?_ rfl (refOut_of HF.out ⟨.slice none 0 0, .slice none 0 0, .slice none 0 0, .slice none 0 0, rfl, zero_hdv _, mod_fin hM2⟩)
      simp [results, Tryd.results20, go_sem, q0, q1, q2, q3, q4, q5, q6, q7, q8, Hd.zero, hdV]
    · have HF : Hid (finL ⟨false, decide (c.toNat / 4 % 2 = 1), 0, 0, d, [], [], ct, (s3.l.length : Int)⟩ ((l.length : Int) - s3.l.length) s3.e = (⟨false, decide (c.toNat / 4 % 2 = 1), 0, 0, d, [], [], ct, (s3.l.length : Int)⟩, ((l.length : Int) - s3.l.length), 0)) := by show _ = _; simp [finL, hz, hright]
      rw [hright] at HEND
      clear hz hright
      go_wp2_with fail
      refine HEND.out.mono ?_
      rintro e w9 ⟨rfl, hM9⟩
      have hP9 := Lib.hid (hP127.out.keep hM9)
      clear c0 c1 c2 c3 c4 c5 c6 c7 c8 c9 g0 g1 g2 g3 g4 g5 g6 g7 g8
      clear k1 k2 k3 k4 k5
      obtain ⟨⟨r0, r1, r2, r3, r4, r5, r6, r7, r8, r9⟩, ⟨f0, f1, f2, f3, f4, f5, f6, f7, f8⟩⟩ := hP9.out.rcells
      obtain ⟨kb, m1, m2, m3, m4, m5⟩ := refs_cells hP9.out.r
      rw [m3 hke.out] at m1
      clear m3
      obtain ⟨c0, c1, c2, c3, c4, c5, c6, c7, c8, c9⟩ := hP9.out.cells
      go_wp2_with fail
      go_region
      all_goals
        go_wp2_with fail
        have hMY := hM9
        have hlt9 : w.heap.size < rb := Nat.lt_trans (Nat.lt_succ_self _) hP9.out.hB
        rw [set9_eq]
        have HB2 := (Mod.refl (fun _ => False) _).drew.blk (blk_set9 (.bool false) (.bool (decide (c.toNat / 4 % 2 = 1))) (.int .i64 0) (.int .u32 0) (.slice ad d.length cpd) (.slice none 0 0) (.slice none 0 0) (.slice ac ct.length cpc) (.int .i64 (s3.l.length : Int)) hP9.out.res) (fun h => h)
        have hM2 := (mod_set9 (b := w.heap.size) (.bool false) (.bool (decide (c.toNat / 4 % 2 = 1))) (.int .i64 0) (.int .u32 0) (.slice ad d.length cpd) (.slice none 0 0) (.slice none 0 0) (.slice ac ct.length cpc) (.int .i64 (s3.l.length : Int)) hP9.out.mod (fun _ => Nat.le_refl _)).drew
        obtain ⟨q0, q1, q2, q3, q4, q5, q6, q7, q8, _⟩ := hd_cells HB2
        refine bodyPost_ret (v := .tuple #[_, _, _]) ?_ rfl (refOut_of HF.out ⟨.slice ad d.length cpd, .slice none 0 0, .slice none 0 0, .slice ac ct.length cpc, rfl, ((hdv_mk false (decide (c.toNat / 4 % 2 = 1)) 0 0 d [] [] ct (s3.l.length : Int) (own_fin hO128.out hMY hlt9 (.bool false) (.bool (decide (c.toNat / 4 % 2 = 1))) (.int .i64 0) (.int .u32 0) (.slice ad d.length cpd) (.slice none 0 0) (.slice none 0 0) (.slice ac ct.length cpc) (.int .i64 (s3.l.length : Int))).byts (Sl.nil _ _) (Sl.nil _ _) (own_fin hO129.out hMY hlt9 (.bool false) (.bool (decide (c.toNat / 4 % 2 = 1))) (.int .i64 0) (.int .u32 0) (.slice ad d.length cpd) (.slice none 0 0) (.slice none 0 0) (.slice ac ct.length cpc) (.int .i64 (s3.l.length : Int))).byts (by decide) (by have := y1l; omega) (by decide) (by decide) (by have := y2l; omega) (by decide) ⟨by omega, by have := hlr.out; omega⟩)).kept (Mod.refl _ _).drew, mod_fin hM2⟩)
        simp [results, Tryd.results20, go_sem, q0, q1, q2, q3, q4, q5, q6, q7, q8, hdV]
  · have tz : (s3.e != 0) = true := by simp [hz]
    have HF : Hid (finL ⟨false, decide (c.toNat / 4 % 2 = 1), 0, 0, d, [], [], ct, (s3.l.length : Int)⟩ ((l.length : Int) - s3.l.length) s3.e = (Hd.zero, 0, s3.e)) := by show _ = _; simp [finL, hz]
    clear hz
    obtain ⟨c0, c1, c2, c3, c4, c5, c6, c7, c8, c9⟩ := hP122.out.cells
    obtain ⟨g0, g1, g2, g3, g4, g5, g6, g7, g8⟩ := hP122.out.frozen
    obtain ⟨⟨r0, r1, r2, r3, r4, r5, r6, r7, r8, r9⟩, ⟨f0, f1, f2, f3, f4, f5, f6, f7, f8⟩⟩ := hP122.out.rcells
    obtain ⟨n0, n1, n2, n3, n4, n5, n6, n7, n8, n9⟩ := hP122.out.ncells
    obtain ⟨ka, k1, k2, k3, k4, k5⟩ := refs_cells hP122.out.r
    go_wp2_with fail
    go_region
    all_goals
      go_wp2_with fail
      rw [set9_eq]
      have HB2 := (Mod.refl (fun _ => False) _).drew.blk (blk_set9 (.bool false) (.bool false) (.int .i64 0) (.int .u32 0) (.slice none 0 0) (.slice none 0 0) (.slice none 0 0) (.slice none 0 0) (.int .i64 0) hP127.out.res) (fun h => h)
      have hM2 := (mod_set9 (b := w.heap.size) (.bool false) (.bool false) (.int .i64 0) (.int .u32 0) (.slice none 0 0) (.slice none 0 0) (.slice none 0 0) (.slice none 0 0) (.int .i64 0) hP127.out.mod (fun _ => Nat.le_refl _)).drew
      obtain ⟨q0, q1, q2, q3, q4, q5, q6, q7, q8, _⟩ := hd_cells HB2
      refine bodyPost_ret (v := .tuple #[_, _, _]) ?_ rfl (refOut_of HF.out ⟨.slice none 0 0, .slice none 0 0, .slice none 0 0, .slice none 0 0, rfl, zero_hdv _, mod_fin hM2⟩)
      simp [results, Tryd.results20, go_sem, q0, q1, q2, q3, q4, q5, q6, q7, q8, Hd.zero, hdV]
end Go.Proofs.YtolbeamphmoimaaDoor
