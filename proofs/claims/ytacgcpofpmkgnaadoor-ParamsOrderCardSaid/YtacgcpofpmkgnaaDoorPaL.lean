/- The program's Read of parameters. -/
import Derived.Test.YtacgcpofpmkgnaaDoorPaK
namespace Go.Proofs.YtacgcpofpmkgnaaDoor
open Go.RowKit

theorem pm_zero : #[Value.int .u64 0, .int .u64 0, .int .u64 0, .int .u64 0, .bool false, .int .u8 0, .int .u8 0, .int .u8 0, .int .u8 0, .int .u8 0, .int .u8 0, .int .u8 0, .int .u8 0, .int .u8 0, .int .u8 0, .int .u8 0, .int .u8 0, .int .u8 0, .int .u8 0, .int .u8 0, .int .u8 0] = pmC Pm.zero := rfl
theorem pread_step {f : Nat} {p : Pm} {had : List Nat} {s s1 s2 s3 : RS} {id nn : Nat} {vl : List UInt8} (h0 : s.l ≠ []) (h1 : s.int = (id, s1)) (h2 : s1.int = (nn, s2)) (h3 : s2.bytes nn = (vl, s3)) :
    preadL (f + 1) p had s = if s3.e ≠ 0 then (Pm.zero, s3.e) else if (knownB id && had.contains id) = true then (Pm.zero, 11) else match takeL p id vl with
      | none => (Pm.zero, 3)
      | some p' => preadL f p' (id :: had) s3 := by
  rw [preadL, if_neg h0]
  simp only [h1, h2, h3]
  rfl
theorem pread_end {f : Nat} {p : Pm} {had : List Nat} {s : RS} (h0 : s.l = []) : preadL f p had s = finP p := by
  cases f with
  | zero => rfl
  | succ f => rw [preadL, if_pos h0]
/-- The state of the loop. -/
def RdL (w0 w : World) (rb : Nat) (R : Pm × Int) (p : Pm) (had : List Nat) (s : RS) (n : Nat) : Prop := RdS w0 w rb n p had s ∧ n + s.l.length ≤ 100000 ∧ ∃ f, s.l.length < f ∧ preadL f p had s = R

set_option maxHeartbeats 8000000 in
set_option maxRecDepth 10000 in
theorem pread_any {w : World} {v : Value} {l : List UInt8} (h : Byts w v l) (hl : (l.length : Int) ≤ 100000) : Calls Tryd.prog 17 #[v] w (ReadR w (preadF l)) := by
  have H := Lib.hid h
  have HL := Lib.hid hl
  obtain ⟨a, cap, rfl, _⟩ := byts_val h
  obtain ⟨R, hR⟩ : ∃ R, R = preadF l := ⟨_, rfl⟩
  rw [← hR]
  have HRR := Lib.hid hR
  have hmm := @run_makeMap Tryd.prog
  clear h hl hR
  go_enter Tryd.func17, Tryd.ntmps17
  go_wp2_with fail
  rw [pm_zero]
  have b0 := Blk.new w (pmC Pm.zero) 25
  have b1 := Blk.new (w.alloc (.cells (pmC Pm.zero) 25)) (pmC Pm.zero) 25
  have m2 := HadM.made ((w.alloc (.cells (pmC Pm.zero) 25)).alloc (.cells (pmC Pm.zero) 25))
  rw [show ∀ o : Obj, (w.alloc o).heap.size = w.heap.size + 1 from fun o => by simp] at b1
  rw [show ∀ o o' : Obj, ((w.alloc o).alloc o').heap.size = w.heap.size + 2 from fun o o' => by simp] at m2
  have hM0 := (((Mod.refl (fun _ => False) w).alloc (.cells (pmC Pm.zero) 25)).alloc (.cells (pmC Pm.zero) 25)).alloc (.map #[] 0)
  refine (read_any (byts_kept H.out hM0) (by have := HL.out; omega)).mono ?_
  rintro e w1 ⟨rb, rfl, hrb, hr, hM1⟩
  have HS0 : Hid (RdL w w1 rb R Pm.zero [] ⟨l, 0⟩ 0) := ⟨⟨⟨hM1.blk ((b0.alloc _).alloc _) (fun h => h), rfl⟩, ⟨hM1.blk (b1.alloc _) (fun h => h), rfl⟩, m2.kept hM1 (fun h => h), hr, by simpa using hrb, hM0.trans hM1⟩, by have := HL.out; simp; omega, l.length + 1, Nat.lt_succ_self _, HRR.out.symm⟩
  clear b0 b1 m2 hM0 hr hM1
  go_wp2_with fail
  go_loopw [7] (fun s7 wr => ∃ x : Value, s7 = x ∧ ∃ p had s n, Hid (RdL w wr rb R p had s n)) (fun _ wr => lenAt wr rb)
  case atStart => exact ⟨_, rfl, _, _, _, _, HS0⟩
  case round =>
    clear HS0
    obtain ⟨x, rfl, p, had, s, n, HS⟩ := hrel
    by_cases hs : s.l = []
    · have hleft := left_any HS.out.1.rd
      have hl0 : ((s.l.length : Nat) : Int) = 0 := by simp [hs]
      rw [hl0] at hleft
      have hfin : R = finP p := by obtain ⟨f, hf, h⟩ := HS.out.2.2; rw [← h]; exact pread_end hs
      have HF := Lib.hid hfin
      have HP := Lib.hid HS.out.1.pm
      have HZ := Lib.hid (size25 p HP.out.len)
      have HZ0 := Lib.hid (size25 Pm.zero rfl)
      have hmay := Lib.hid (may_any HP.out.len wr)
      unfold pmV at hmay
      clear hl0 hfin hs
      go_wp2_with (first | (go_at_call 24; refine (hleft).mono ?_; rintro e w' ⟨rfl, rfl⟩) | ((with_reducible refine wpList_load_blk ?_ 25 (.tmp 4) ?_ (w.heap.size + 1) ?_ (pmC p) 25 _ HP.out.blk Tryd.underlying25 ?_ HZ.out ?_); (· exact rfl); (· exact rfl); (· exact rfl); (· exact rfl)))
      refine (hmay.out).mono ?_
      rintro e w2 ⟨rfl, hM2⟩
      have HS2 := Lib.hid (HS.out.1.toF hM2)
      clear hM2 hmay
      cases hm : mayB p
      · have HMB := Lib.hid hm
        clear hm
        go_wp2_with ((with_reducible refine wpList_store_blk ?_ 25 (.tmp 2) (.tmp 48) ?_ w.heap.size ?_ (pmC Pm.zero) (pmC Pm.zero) ?_ 25 HS2.out.res.blk HZ0.out ?_ ?_ ?_); (· exact rfl); (· exact rfl); (· exact rfl); (· exact rfl); (· exact rfl); (· exact fun v hv => pmC_one Pm.zero v (by simpa [pmC] using hv)); intro w3 hB3 hM3)
        have hld := blk_loadVar (P := Tryd.prog) hB3 Tryd.underlying25 rfl HZ0.out
        refine bodyPost_ret (v := .tuple #[pmV Pm.zero, .int .i64 3]) ?_ rfl ⟨?_, HS2.out.mod.trans' hM3 (fun i hi e => by omega)⟩
        · exact results_cell_tmp Tryd.results17 _ rfl hld
        · rw [HF.out, finP, if_neg (by simp [HMB.out])]
      · have HMB := Lib.hid hm
        clear hm
        go_wp2_with (first | ((with_reducible refine wpList_load_blk ?_ 25 (.tmp 4) ?_ (w.heap.size + 1) ?_ (pmC p) 25 _ HS2.out.pm.blk Tryd.underlying25 ?_ HZ.out ?_); (· exact rfl); (· exact rfl); (· exact rfl); (· exact rfl)) | ((with_reducible refine wpList_store_blk ?_ 25 (.tmp 2) (.tmp 49) ?_ w.heap.size ?_ (pmC Pm.zero) (pmC p) ?_ 25 HS2.out.res.blk HZ.out ?_ ?_ ?_); (· exact rfl); (· exact rfl); (· exact rfl); (· exact rfl); (· rw [pmC_size _ HP.out.len]; rfl); (· exact fun v hv => pmC_one p v (by simpa [pmC] using hv)); intro w3 hB3 hM3))
        have hld := blk_loadVar (P := Tryd.prog) hB3 Tryd.underlying25 rfl HZ.out
        refine bodyPost_ret (v := .tuple #[pmV p, .int .i64 0]) ?_ rfl ⟨?_, HS2.out.mod.trans' hM3 (fun i hi e => by omega)⟩
        · exact results_cell_tmp Tryd.results17 _ rfl hld
        · rw [HF.out, finP, if_pos HMB.out]
    · have hleft := left_any HS.out.1.rd
      have hlp : (0 : Int) < (s.l.length : Int) := by have := List.length_pos_iff.2 hs; omega
      have HNE := Lib.hid hs
      have HZ0 := Lib.hid (size25 Pm.zero rfl)
      have hi1 := Lib.hid (int_any HS.out.1.rd)
      have hlt1 := int_lt s
      obtain ⟨id, s1, h1⟩ : ∃ id s1, s.int = (id, s1) := ⟨_, _, rfl⟩
      rw [h1] at hi1 hlt1
      have hok := Lib.hid (okId_lt hlt1)
      have H1 := Lib.hid h1
      obtain ⟨nn, s2, h2⟩ : ∃ nn s2, s1.int = (nn, s2) := ⟨_, _, rfl⟩
      have H2 := Lib.hid h2
      obtain ⟨vl, s3, h3⟩ : ∃ vl s3, s2.bytes nn = (vl, s3) := ⟨_, _, rfl⟩
      have H3 := Lib.hid h3
      have hb3 := bytes_len s2 nn
      have hb2 := int_len s1
      have hb1 := int_len s
      rw [h3] at hb3
      rw [h2] at hb2
      rw [h1] at hb1
      simp only at hb1 hb2 hb3 hlt1
      have HB3 : Hid (vl.length ≤ s.l.length ∧ s3.l.length ≤ s1.l.length) := by show _ ∧ _; omega
      clear h1 h2 h3 hb1 hb2 hb3 hs hlt1
      go_wp2_with (go_at_call 24; refine (hleft).mono ?_; rintro e w' ⟨rfl, rfl⟩)
      refine (hi1.out).mono ?_
      rintro e w2 ⟨rfl, hr2, hM2⟩
      have HS2 := Lib.hid (HS.out.1.toR hM2 hr2)
      have hi2 := Lib.hid (int_any hr2)
      try simp only at HS2 hi2
      rw [H2.out] at hi2
      clear hr2 hM2 hleft hi1
      go_wp2_with fail
      refine (hi2.out).mono ?_
      rintro e w3 ⟨rfl, hr3, hM3⟩
      have HS3 := Lib.hid (HS2.out.toR hM3 hr3)
      have hi3 := Lib.hid (bytes_any nn hr3)
      try simp only at HS3 hi3
      rw [H3.out] at hi3
      clear hr3 hM3 hi2
      go_wp2_with fail
      refine (hi3.out).mono ?_
      rintro e w4 ⟨v4, rfl, ho4, hr4, hM4⟩
      have HS4 := Lib.hid (HS3.out.toR hM4 hr4)
      have hbad := bad_any hr4
      have HO4 : Hid (OwnB w4 (w.heap.size + 1 + 1) v4 vl) := ho4.mono (by have h1 := HS3.out.lo; have h2 := HS3.out.rd.lt; omega)
      have hv4 := byts_val ho4.byts
      try simp only at HS4 hbad HO4 hv4
      obtain ⟨a4, c4, rfl, _⟩ := hv4
      clear hr4 hM4 hi3 ho4
      have HSTEP : Hid (∀ f, preadL (f + 1) p had s = if s3.e ≠ 0 then (Pm.zero, s3.e) else if (knownB id && had.contains id) = true then (Pm.zero, 11) else match takeL p id vl with
        | none => (Pm.zero, 3)
        | some p' => preadL f p' (id :: had) s3) := fun f => pread_step HNE.out H1.out H2.out H3.out
      have HR0 : Hid (∃ f, s.l.length < f + 1 ∧ preadL (f + 1) p had s = R) := by
        obtain ⟨f, hf, hR⟩ := HS.out.2.2
        cases f with
        | zero => omega
        | succ f => exact ⟨f, hf, hR⟩
      by_cases he : s3.e = 0
      case neg =>
        have hd : (s3.e != 0) = true := by simp [he]
        have HE := Lib.hid he
        clear he
        go_wp2_with (first | (go_at_call 27; refine (hbad).mono ?_; rintro e w' ⟨rfl, rfl⟩) | ((with_reducible refine wpList_store_blk ?_ 25 (.tmp 2) (.tmp 25) ?_ w.heap.size ?_ (pmC Pm.zero) (pmC Pm.zero) ?_ 25 HS4.out.res.blk HZ0.out ?_ ?_ ?_); (· exact rfl); (· exact rfl); (· exact rfl); (· exact rfl); (· exact rfl); (· exact fun v hv => pmC_one Pm.zero v (by simpa [pmC] using hv)); intro wz hBz hMz))
        have hld := blk_loadVar (P := Tryd.prog) hBz Tryd.underlying25 rfl HZ0.out
        refine bodyPost_ret (v := .tuple #[pmV Pm.zero, .int .i64 s3.e]) ?_ rfl ⟨?_, HS4.out.mod.trans' hMz (fun i hi e => by omega)⟩
        · exact results_cell_tmp Tryd.results17 _ rfl hld
        · obtain ⟨f, hf, hR⟩ := HR0.out
          rw [← hR, HSTEP.out, if_pos HE.out]
      case pos =>
        have hd : (s3.e != 0) = false := by simp [he]
        have HE := Lib.hid he
        clear he
        go_wp2_with (first | (go_at_call 27; refine (hbad).mono ?_; rintro e w' ⟨rfl, rfl⟩))
        refine (known_any w4 id).mono ?_
        rintro e w5 ⟨rfl, hM5⟩
        have HS5 := Lib.hid (HS4.out.toF hM5)
        have HO5 := Lib.hid (HO4.out.keptF hM5)
        have hlook : (Instr.lookup 53 (.map (some (w.heap.size + 1 + 1))) (.int .u64 (id : Int)) false).run Tryd.prog w5 = .ok (.bool (had.contains id)) w5 := HS5.out.map.look hok.out
        have htake := Lib.hid (take_any (id := id) HS5.out.pm HO5.out (by have := HS.out.2.1; have := HB3.out; have := HS.out; omega))
        clear hM5 HO4
        by_cases hkh : (knownB id && had.contains id) = true
        case pos =>
          obtain ⟨hk, hh⟩ := (Bool.and_eq_true _ _).mp hkh
          have HKH := Lib.hid hkh
          rw [hh] at hlook
          rw [hk]
          clear hk hh hkh
          go_wp2_with ((with_reducible refine wpList_store_blk ?_ 25 (.tmp 2) (.tmp 36) ?_ w.heap.size ?_ (pmC Pm.zero) (pmC Pm.zero) ?_ 25 HS5.out.res.blk HZ0.out ?_ ?_ ?_); (· exact rfl); (· exact rfl); (· exact rfl); (· exact rfl); (· exact rfl); (· exact fun v hv => pmC_one Pm.zero v (by simpa [pmC] using hv)); intro wz hBz hMz)
          have hld := blk_loadVar (P := Tryd.prog) hBz Tryd.underlying25 rfl HZ0.out
          refine bodyPost_ret (v := .tuple #[pmV Pm.zero, .int .i64 11]) ?_ rfl ⟨?_, HS5.out.mod.trans' hMz (fun i hi e => by omega)⟩
          · exact results_cell_tmp Tryd.results17 _ rfl hld
          · obtain ⟨f, hf, hR⟩ := HR0.out
            rw [← hR, HSTEP.out, if_neg (by simp [HE.out]), if_pos HKH.out]
        case neg =>
          have HKH := Lib.hid hkh
          have hkh2 : knownB id = false ∨ had.contains id = false := by
            cases hk : knownB id
            · exact .inl rfl
            · right
              cases hh : had.contains id
              · rfl
              · exact absurd (by rw [hk, hh]; rfl) hkh
          clear hkh
          have hstop : Hid (∀ (P : Prop), True) := fun _ => trivial
          obtain ⟨kb, hkb⟩ : ∃ kb, kb = knownB id := ⟨_, rfl⟩
          obtain ⟨hb, hhb⟩ : ∃ hb, hb = had.contains id := ⟨_, rfl⟩
          rw [← hkb, ← hhb] at hkh2
          rw [← hhb] at hlook
          rw [← hkb]
          clear hkb hhb
          cases kb
          case' true => obtain rfl : hb = false := by simpa using hkh2
          all_goals
            clear hkh2
            go_wp2_with fail
            refine (htake.out).mono ?_
            rintro e w6 ⟨hM6, hr6⟩
            obtain ⟨f, hf, hR⟩ := HR0.out
            have HRR2 : Hid (R = match takeL p id vl with
              | none => (Pm.zero, 3)
              | some p' => preadL f p' (id :: had) s3) := by
              show _ = _
              rw [← hR, HSTEP.out, if_neg (by simp [HE.out]), if_neg HKH.out]
            have HF := Lib.hid hf
            clear hf hR
            cases ht : takeL p id vl with
            | none =>
              rw [ht] at hr6
              simp only at hr6
              subst hr6
              rw [ht] at HRR2
              have HM6 := Lib.hid hM6
              have hres6 : Hid (PmB w6 w.heap.size Pm.zero) := HS5.out.res.keptS hM6 (by omega)
              have HM6' := Lib.hid (HS5.out.mod.trans' hM6 (fun i hi e => by omega))
              clear ht hM6
              go_wp2_with ((with_reducible refine wpList_store_blk ?_ 25 (.tmp 2) (.tmp 42) ?_ w.heap.size ?_ (pmC Pm.zero) (pmC Pm.zero) ?_ 25 hres6.out.blk HZ0.out ?_ ?_ ?_); (· exact rfl); (· exact rfl); (· exact rfl); (· exact rfl); (· exact rfl); (· exact fun v hv => pmC_one Pm.zero v (by simpa [pmC] using hv)); intro wz hBz hMz)
              have hld := blk_loadVar (P := Tryd.prog) hBz Tryd.underlying25 rfl HZ0.out
              refine bodyPost_ret (v := .tuple #[pmV Pm.zero, .int .i64 3]) ?_ rfl ⟨?_, HM6'.out.trans' hMz (fun i hi e => by omega)⟩
              · exact results_cell_tmp Tryd.results17 _ rfl hld
              · rw [HRR2.out]
            | some p' =>
              rw [ht] at hr6
              simp only at hr6
              obtain ⟨rfl, hp6⟩ := hr6
              rw [ht] at HRR2
              have HS6 := Lib.hid (HS5.out.toP hM6 hp6)
              obtain ⟨w7, hrun, hmap7, hM7⟩ := HS6.out.map.put hok.out (by have := HS.out.2.1; unfold maxLen; omega)
              have hrun' : (Instr.mapUpdate 53 (.map (some (w.heap.size + 1 + 1))) (.int .u64 (id : Int)) (.bool true)).run Tryd.prog w6 = .ok () w7 := hrun
              have HS7 := Lib.hid (HS6.out.toM hM7 hmap7)
              have hlen7 := HS7.out.rd.lenAt
              have hlenr := HS.out.1.rd.lenAt
              have hless := int_less s HNE.out (by
                rw [H1.out]
                simp only
                apply Classical.byContradiction
                intro hne
                have h2 := int_bad s1 hne
                rw [H2.out] at h2
                have h3 := bytes_bad s2 nn h2
                rw [H3.out] at h3
                exact h3 HE.out)
              rw [H1.out] at hless
              simp only at hless
              have hl3 := HB3.out.2
              clear ht hM6 hp6 hrun hmap7 hM7 hlook htake
              go_wp2_with fail
              go_roundw
              case rel => exact ⟨_, rfl, p', id :: had, s3, n + 1, HS7.out, by have := HS.out.2.1; omega, f, by have := HF.out; omega, HRR2.out.symm⟩
              case measure => rw [hlen7, hlenr]; omega
end Go.Proofs.YtacgcpofpmkgnaaDoor
