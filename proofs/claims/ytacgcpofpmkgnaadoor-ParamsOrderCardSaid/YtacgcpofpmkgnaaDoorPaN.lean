/- The document's Read of parameters. (printed by genrefread.py) -/
import Derived.Test.YtacgcpofpmkgnaaDoorPaM
import Derived.Deep.RegionHeld3
namespace Go.Proofs.YtacgcpofpmkgnaaDoor
open Go.RowKit

theorem had_zero : #[Value.bool false, .bool false, .bool false, .bool false, .bool false, .bool false, .bool false, .bool false, .bool false] = hadC [] := rfl
theorem tok_part (p : Pm) (l : List UInt8) (k : Nat) (x : UInt8) (hp : p.t.length = 16) (hl : l.length = 16) (hk : k < 16) (hx : l[k]? = some x) : (pmC { p with t := l.take k ++ p.t.drop k }).setIfInBounds (5 + k) (bv x) = pmC { p with t := l.take (k + 1) ++ p.t.drop (k + 1) } := by
  apply Array.toList_inj.1
  have e : (l.take k).length = k := by rw [List.length_take]; omega
  have hkl : k < p.t.length := by omega
  rw [Array.toList_setIfInBounds]
  simp only [pmC, pmL, List.set_append]
  rw [if_neg (by simp)]
  have e2 : 5 + k - [Value.int .u64 (p.i : Int), .int .u64 (p.d : Int), .int .u64 (p.s : Int), .int .u64 (p.n : Int), .bool p.h].length = k := by simp
  rw [e2, take_snoc l k x hx, List.drop_eq_getElem_cons hkl]
  simp only [List.map_append, List.map_cons, List.map_nil]
  rw [List.set_append, if_neg (by simp; omega)]
  have e3 : k - min k l.length = 0 := by omega
  simp [e3]
theorem tok_part_len (p : Pm) (l : List UInt8) (k : Nat) (hp : p.t.length = 16) (hl : l.length = 16) (hk : k ≤ 16) : (l.take k ++ p.t.drop k).length = 16 := by
  rw [List.length_append, List.length_take, List.length_drop]; omega

set_option maxHeartbeats 16000000 in
set_option maxRecDepth 10000 in
theorem refpread_any {w : World} {v : Value} {l : List UInt8} (h : Byts w v l) (hl : (l.length : Int) ≤ 5000) : Calls Tryd.prog 18 #[v] w (ReadR w (preadF l)) := by
  have H := Lib.hid h
  have HL := Lib.hid hl
  have HLT := Lib.hid (fun (hne : l ≠ []) => Sl.lt h (by simpa using hne))
  obtain ⟨a, cap, rfl, _⟩ := byts_val h
  obtain ⟨R, hR⟩ : ∃ R, R = preadF l := ⟨_, rfl⟩
  rw [← hR]
  have HRR := Lib.hid hR
  clear h hl hR
  go_enter Tryd.func18, Tryd.ntmps18
  go_wp2_with fail
  rw [pm_zero, had_zero]
  have b0 := Blk.new w (pmC Pm.zero) 25
  have b1 := Blk.new (w.alloc (.cells (pmC Pm.zero) 25)) (pmC Pm.zero) 25
  have b2 := Blk.new ((w.alloc (.cells (pmC Pm.zero) 25)).alloc (.cells (pmC Pm.zero) 25)) (hadC []) 61
  have b3 := Blk.new (((w.alloc (.cells (pmC Pm.zero) 25)).alloc (.cells (pmC Pm.zero) 25)).alloc (.cells (hadC []) 61)) #[.slice a l.length cap, .int .i64 0, .int .i64 0] 64
  rw [show ∀ o : Obj, (w.alloc o).heap.size = w.heap.size + 1 from fun o => by simp] at b1
  rw [show ∀ o o' : Obj, ((w.alloc o).alloc o').heap.size = w.heap.size + 2 from fun o o' => by simp] at b2
  rw [show ∀ o o' o2 : Obj, (((w.alloc o).alloc o').alloc o2).heap.size = w.heap.size + 3 from fun o o' o2 => by simp] at b3
  have hM0 := ((((Mod.refl (fun _ => False) w).alloc (.cells (pmC Pm.zero) 25)).alloc (.cells (pmC Pm.zero) 25)).alloc (.cells (hadC []) 61)).alloc (.cells #[.slice a l.length cap, .int .i64 0, .int .i64 0] 64)
  have haB : l ≠ [] → ∀ x, a = some x → x.block < w.heap.size := by
    rintro hne x rfl
    exact HLT.out hne _ rfl
  have hrefs : RefS _ (w.heap.size + 3) a cap l ⟨l, 0⟩ := ⟨0, 0, by simp [refS], b3, byts_kept H.out hM0, Nat.zero_le _, by have := HL.out; omega, fun hne x hx e => by have := haB hne x hx; omega⟩
  have HS0 : Hid (RfL w _ a cap l R Pm.zero [] ⟨l, 0⟩) := ⟨⟨⟨((b0.alloc _).alloc _).alloc _, rfl⟩, ⟨(b1.alloc _).alloc _, rfl⟩, b2.alloc _, hrefs, haB, hM0⟩, Nat.le_refl _, l.length + 1, Nat.lt_succ_self _, HRR.out.symm⟩
  clear b0 b1 b2 b3 hM0 hrefs haB HLT
  generalize (((w.alloc (.cells (pmC Pm.zero) 25)).alloc (.cells (pmC Pm.zero) 25)).alloc (.cells (hadC []) 61)).alloc (.cells #[.slice a l.length cap, .int .i64 0, .int .i64 0] 64) = w1 at *
  go_loopw [7] (fun s7 wr => ∃ x : Value, s7 = x ∧ ∃ p had s, Hid (RfL w wr a cap l R p had s)) (fun _ wr => leftAt wr (w.heap.size + 3) l.length)
  case atStart => exact ⟨_, rfl, _, _, _, HS0⟩
  case round =>
    clear HS0
    obtain ⟨x, rfl, p, had, s, HS⟩ := hrel
    by_cases hs : s.l = []
    · have hleft := refs_left HS.out.1.rd
      have hl0 : ((s.l.length : Nat) : Int) = 0 := by simp [hs]
      rw [hl0] at hleft
      have hfin : R = finP p := by obtain ⟨f, hf, h⟩ := HS.out.2.2; rw [← h]; exact pread_end hs
      have HF := Lib.hid hfin
      have HLeft := Lib.hid hleft
      clear hl0 hfin hs hleft
      go_wp2_with fail
      refine (HLeft.out).mono ?_
      rintro e w' ⟨⟨q, rfl⟩, rfl⟩
      have HS1 := Lib.hid (HS.out.1.toF ((Mod.refl _ _).drewN q))
      have HP := Lib.hid HS1.out.pm
      have HZ := Lib.hid (size25 p HP.out.len)
      have HZ0 := Lib.hid (size25 Pm.zero rfl)
      have hmay := Lib.hid (refmay_any HP.out.len (wr.drewN q))
      unfold pmV at hmay
      go_wp2_with ((with_reducible refine wpList_load_blk ?_ 25 (.tmp 4) ?_ (w.heap.size + 1) ?_ (pmC p) 25 _ HP.out.blk Tryd.underlying25 ?_ HZ.out ?_); (· exact rfl); (· exact rfl); (· exact rfl); (· exact rfl))
      refine (hmay.out).mono ?_
      rintro e w2 ⟨rfl, hM2⟩
      have HS2 := Lib.hid (HS1.out.toF hM2)
      clear hM2 hmay
      cases hm : mayB p
      · have HMB := Lib.hid hm
        clear hm
        go_wp2_with ((with_reducible refine wpList_store_blk ?_ 25 (.tmp 2) (.tmp 114) ?_ w.heap.size ?_ (pmC Pm.zero) (pmC Pm.zero) ?_ 25 HS2.out.res.blk HZ0.out ?_ ?_ ?_); (· exact rfl); (· exact rfl); (· exact rfl); (· exact rfl); (· exact rfl); (· exact fun v hv => pmC_one Pm.zero v (by simpa [pmC] using hv)); intro wz hBz hMz)
        have hld := blk_loadVar (P := Tryd.prog) hBz Tryd.underlying25 rfl HZ0.out
        refine bodyPost_ret (v := .tuple #[pmV Pm.zero, .int .i64 3]) ?_ rfl ⟨?_, HS2.out.mod.trans' hMz (fun i hi e => by omega)⟩
        · exact results_cell_tmp Tryd.results18 _ rfl hld
        · rw [HF.out, finP, if_neg (by simp [HMB.out])]
      · have HMB := Lib.hid hm
        clear hm
        go_wp2_with (first | ((with_reducible refine wpList_load_blk ?_ 25 (.tmp 4) ?_ (w.heap.size + 1) ?_ (pmC p) 25 _ HS2.out.pm.blk Tryd.underlying25 ?_ HZ.out ?_); (· exact rfl); (· exact rfl); (· exact rfl); (· exact rfl)) | ((with_reducible refine wpList_store_blk ?_ 25 (.tmp 2) (.tmp 115) ?_ w.heap.size ?_ (pmC Pm.zero) (pmC p) ?_ 25 HS2.out.res.blk HZ.out ?_ ?_ ?_); (· exact rfl); (· exact rfl); (· exact rfl); (· exact rfl); (· rw [pmC_size _ HP.out.len]; rfl); (· exact fun v hv => pmC_one p v (by simpa [pmC] using hv)); intro w3 hB3 hM3))
        have hld := blk_loadVar (P := Tryd.prog) hB3 Tryd.underlying25 rfl HZ.out
        refine bodyPost_ret (v := .tuple #[pmV p, .int .i64 0]) ?_ rfl ⟨?_, HS2.out.mod.trans' hM3 (fun i hi e => by omega)⟩
        · exact results_cell_tmp Tryd.results18 _ rfl hld
        · rw [HF.out, finP, if_pos HMB.out]
    · have hleft := Lib.hid (refs_left HS.out.1.rd)
      have hlp : (0 : Int) < (s.l.length : Int) := by have := List.length_pos_iff.2 hs; omega
      have HNE := Lib.hid hs
      have HZ0 := Lib.hid (size25 Pm.zero rfl)
      obtain ⟨id, s1, h1⟩ : ∃ id s1, s.int = (id, s1) := ⟨_, _, rfl⟩
      have H1 := Lib.hid h1
      obtain ⟨nn, s2, h2⟩ : ∃ nn s2, s1.int = (nn, s2) := ⟨_, _, rfl⟩
      have H2 := Lib.hid h2
      obtain ⟨vl, s3, h3⟩ : ∃ vl s3, s2.bytes nn = (vl, s3) := ⟨_, _, rfl⟩
      have H3 := Lib.hid h3
      have hb3 := bytes_len s2 nn
      have hb2 := int_len s1
      have hb1 := int_len s
      rw [h3] at hb3
      rw [h2] at hb2
      rw [h1] at hb1
      simp only at hb1 hb2 hb3
      have HB3 : Hid (vl.length ≤ s.l.length ∧ s3.l.length ≤ s1.l.length) := by show _ ∧ _; omega
      clear h1 h2 h3 hb1 hb2 hb3 hs
      go_wp2_with fail
      refine (hleft.out).mono ?_
      rintro e w' ⟨⟨q, rfl⟩, rfl⟩
      have HS1 := Lib.hid (HS.out.1.toF ((Mod.refl _ _).drewN q))
      have hi1 := Lib.hid (refint_any HS1.out.rd)
      rw [H1.out] at hi1
      clear hleft
      go_wp2_with fail
      refine (hi1.out).mono ?_
      rintro e w2 ⟨rfl, hr2, hM2⟩
      have HS2 := Lib.hid (HS1.out.toT hM2 hr2)
      have hi2 := Lib.hid (refint_any hr2)
      try simp only at HS2 hi2
      rw [H2.out] at hi2
      clear hr2 hM2 hi1
      go_wp2_with fail
      refine (hi2.out).mono ?_
      rintro e w3 ⟨rfl, hr3, hM3⟩
      have HS3 := Lib.hid (HS2.out.toT hM3 hr3)
      have hi3 := Lib.hid (refbytes_any nn hr3)
      try simp only at HS3 hi3
      rw [H3.out] at hi3
      clear hr3 hM3 hi2
      go_wp2_with fail
      refine (hi3.out).mono ?_
      rintro e w4 ⟨v4, rfl, ho4, hr4, hM4⟩
      have HS4 := Lib.hid (HS3.out.toT hM4 hr4)
      have HO4 : Hid (OwnB w4 (w.heap.size + 3) v4 vl) := ho4.mono (by have h1 := HS3.out.mod.size; obtain ⟨_, _, _, hb, _⟩ := HS3.out.rd; have := hb.lt; omega)
      have hv4 := byts_val ho4.byts
      try simp only at HS4 HO4 hv4
      obtain ⟨a4, c4, rfl, _⟩ := hv4
      have hbad := HS4.out.rd.bad
      clear hr4 hM4 hi3 ho4
      have HSTEP : Hid (∀ f, preadL (f + 1) p had s = if s3.e ≠ 0 then (Pm.zero, s3.e) else if (knownB id && had.contains id) = true then (Pm.zero, 11) else match takeL p id vl with
        | none => (Pm.zero, 3)
        | some p' => preadL f p' (id :: had) s3) := fun f => pread_step HNE.out H1.out H2.out H3.out
      obtain ⟨f, hf, hRf⟩ : ∃ f, s.l.length < f + 1 ∧ preadL (f + 1) p had s = R := by
        obtain ⟨f, hf, hR⟩ := HS.out.2.2
        cases f with
        | zero => omega
        | succ f => exact ⟨f, hf, hR⟩
      have HF := Lib.hid hf
      have HR0 := Lib.hid hRf
      clear hf hRf
      by_cases he : s3.e = 0
      case neg =>
        have hd : (s3.e != 0) = true := by simp [he]
        have HE := Lib.hid he
        clear he
        go_wp2_with fail
        have hres := HS4.out.res.blk
        have hneq : ¬ w.heap.size + 3 = w.heap.size := by omega
        have hresd := (Mod.refl (fun _ => False) _).drew.blk hres (fun h => h)
        have hbadd := (Mod.refl (fun _ => False) _).drew.cellAt hbad (fun h => h)
        have hMd : Mod (fun k => k = w.heap.size) w4 w4.drew := (Mod.refl _ _).drew
        refine wp_region_any (by kernel_rfl) ?_
        change wpAny _ _ _ _ _ _ _ (World.drew _)
        refine wpAny_take (i := 0) (v := .agg (pmC Pm.zero)) rfl (by kernel_rfl) (by kernel_rfl) (by kernel_rfl) (fun _ _ _ h => h) (Or.inl ⟨by rfl, ?_⟩) ?_
        · intro w; go_simp; rfl
        refine wpAny_take (i := 1) (v := .pointer (some ⟨w.heap.size + 3, 0, none⟩)) rfl (by kernel_rfl) (by kernel_rfl) (by kernel_rfl) (fun _ _ _ h => h) (Or.inl ⟨by rfl, ?_⟩) ?_
        · intro w; go_simp
        refine wpAny_take (i := 2) (v := .pointer (some ⟨w.heap.size + 3, 0, none⟩)) rfl (by kernel_rfl) (by kernel_rfl) (by kernel_rfl) (fun _ _ _ h => h) (Or.inl ⟨by rfl, ?_⟩) ?_
        · intro w; go_simp
        refine wpAny_take (i := 3) (v := .pointer (some ⟨w.heap.size + 3, 2, none⟩)) rfl (by kernel_rfl) (by kernel_rfl) (by kernel_rfl) (fun _ _ _ h => h) (Or.inl ⟨by rfl, ?_⟩) ?_
        · intro w; go_simp
        refine wpAny_ready (rs := [4, 5]) (by kernel_rfl) (by simp) ?_
        refine AllReady.cons rfl (fun K hK => ?_) (AllReady.cons rfl (fun K hK => ?_) AllReady.nil)
        · go_simp
          refine hK _ _ ?_
          clear hK K
          refine wpAny_ready (rs := [5]) (by kernel_rfl) (by simp) ?_
          refine AllReady.cons rfl (fun K hK => ?_) AllReady.nil
          refine step_store_blk rfl 25 (.tmp 2) (.tmp 31) rfl w.heap.size (by rfl) (pmC Pm.zero) (pmC Pm.zero) (by rfl) 25 hresd HZ0.out rfl (fun v hv => pmC_one Pm.zero v (by simpa [pmC] using hv)) ?_
          intro wz hBz hMz
          have hcz := hMz.cellAt hbadd hneq
          refine hK _ _ ?_
          clear hK K
          refine wpAny_ready (rs := [6]) (by kernel_rfl) (by simp) ?_
          refine AllReady.cons rfl (fun K hK => ?_) AllReady.nil
          go_simp
          refine hK _ _ ?_
          clear hK K
          refine wpAny_done (by kernel_rfl) ?_ _
          have hld := blk_loadVar (P := Tryd.prog) hBz Tryd.underlying25 rfl HZ0.out
          go_wp2_with fail
          refine bodyPost_ret (v := .tuple #[pmV Pm.zero, .int .i64 s3.e]) ?_ rfl ⟨?_, HS4.out.mod.trans' (hMd.trans hMz) (fun i hi e => by omega)⟩
          · exact results_cell_tmp Tryd.results18 _ rfl hld
          · rw [← HR0.out, HSTEP.out, if_pos HE.out]
        · refine step_store_blk rfl 25 (.tmp 2) (.tmp 31) rfl w.heap.size (by rfl) (pmC Pm.zero) (pmC Pm.zero) (by rfl) 25 hresd HZ0.out rfl (fun v hv => pmC_one Pm.zero v (by simpa [pmC] using hv)) ?_
          intro wz hBz hMz
          have hcz := hMz.cellAt hbadd hneq
          refine hK _ _ ?_
          clear hK K
          refine wpAny_ready (rs := [4]) (by kernel_rfl) (by simp) ?_
          refine AllReady.cons rfl (fun K hK => ?_) AllReady.nil
          go_simp
          refine hK _ _ ?_
          clear hK K
          refine wpAny_ready (rs := [6]) (by kernel_rfl) (by simp) ?_
          refine AllReady.cons rfl (fun K hK => ?_) AllReady.nil
          go_simp
          refine hK _ _ ?_
          clear hK K
          refine wpAny_done (by kernel_rfl) ?_ _
          have hld := blk_loadVar (P := Tryd.prog) hBz Tryd.underlying25 rfl HZ0.out
          go_wp2_with fail
          refine bodyPost_ret (v := .tuple #[pmV Pm.zero, .int .i64 s3.e]) ?_ rfl ⟨?_, HS4.out.mod.trans' (hMd.trans hMz) (fun i hi e => by omega)⟩
          · exact results_cell_tmp Tryd.results18 _ rfl hld
          · rw [← HR0.out, HSTEP.out, if_pos HE.out]
      case pos =>
        have hd : (s3.e != 0) = false := by simp [he]
        have HE := Lib.hid he
        clear he
        have hless := int_less s HNE.out (by
          rw [H1.out]
          simp only
          apply Classical.byContradiction
          intro hne
          have h2 := int_bad s1 hne
          rw [H2.out] at h2
          have h3 := bytes_bad s2 nn h2
          rw [H3.out] at h3
          exact h3 HE.out)
        rw [H1.out] at hless
        simp only at hless
        have HLESS : Hid (s3.l.length < s.l.length) := by show _ < _; have := HB3.out; omega
        have hv5 : Hid (vl.length ≤ 5000) := by show _ ≤ _; have := HB3.out; have := HS.out.2.1; have := HL.out; omega
        clear hless
        by_cases hkn : knownB id = false
        · have hk2 := hkn
          simp only [knownB, Bool.or_eq_false_iff, decide_eq_false_iff_not] at hk2
          have c1 : ((id : Int) != 1) = true := by simp; omega
          have c2 : ((id : Int) != 2) = true := by simp; omega
          have c4 : ((id : Int) != 4) = true := by simp; omega
          have c5 : ((id : Int) != 5) = true := by simp; omega
          have c8 : ((id : Int) != 8) = true := by simp; omega
          have HK := Lib.hid hkn
          have HK2 : Hid (id ≠ 2) := hk2.1.1.1.2
          have hnew : Hid (RfS w w4 a cap l p (id :: had) s3) := ⟨HS4.out.res, HS4.out.pm, by rw [hadC_other HK.out]; exact HS4.out.had, HS4.out.rd, HS4.out.aB, HS4.out.mod⟩
          have hl7 := hnew.out.rd.leftAt
          have hl0 := HS.out.1.rd.leftAt
          clear hkn hk2
          go_wp2_with fail
          go_roundw
          case rel => exact ⟨_, rfl, p, id :: had, s3, hnew.out, by have := HLESS.out; have := HS.out.2.1; omega, f, by have := HF.out; have := HLESS.out; omega, by
            rw [← HR0.out, HSTEP.out, if_neg (by simp [HE.out]), if_neg (by simp [HK.out])]
            simp [takeL, HK2.out, HK.out]⟩
          case measure => rw [hl7, hl0]; exact HLESS.out
        · have hkt : knownB id = true := by simpa using hkn
          have hid : id = 1 ∨ id = 2 ∨ id = 4 ∨ id = 5 ∨ id = 8 := by
            simp only [knownB, Bool.or_eq_true, decide_eq_true_eq] at hkt; omega
          clear hkn hkt
          obtain ⟨hb, hhb⟩ : ∃ hb, hb = had.contains id := ⟨_, rfl⟩
          have HHB := Lib.hid hhb
          clear hhb
          rcases hid with rfl | rfl | rfl | rfl | rfl
          · have hc : w4.cell? ⟨w.heap.size + 1 + 1, 1, none⟩ = some (.bool hb) := by rw [HHB.out]; exact HS4.out.had.cellAt 1 rfl
            have hfz : w4.frozen? ⟨w.heap.size + 1 + 1, 1, none⟩ = false := HS4.out.had.free 1
            cases hb
            case' true =>
              go_wp2_with ((with_reducible refine wpList_store_blk ?_ 25 (.tmp 2) (.tmp 57) ?_ w.heap.size ?_ (pmC Pm.zero) (pmC Pm.zero) ?_ 25 HS4.out.res.blk HZ0.out ?_ ?_ ?_); (· exact rfl); (· exact rfl); (· exact rfl); (· exact rfl); (· exact rfl); (· exact fun v hv => pmC_one Pm.zero v (by simpa [pmC] using hv)); intro wz hBz hMz)
              have hld := blk_loadVar (P := Tryd.prog) hBz Tryd.underlying25 rfl HZ0.out
              refine bodyPost_ret (v := .tuple #[pmV Pm.zero, .int .i64 11]) ?_ rfl ⟨?_, HS4.out.mod.trans' hMz (fun i hi e => by omega)⟩
              · exact results_cell_tmp Tryd.results18 _ rfl hld
              · rw [← HR0.out, HSTEP.out, if_neg (by simp [HE.out]), if_pos (by rw [← HHB.out]; rfl)]
            have HS5 : Hid (RfS w (w4.setCell ⟨w.heap.size + 1 + 1, 1, none⟩ (.bool true)) a cap l p (1 :: had) s3) := HS4.out.toH ((Mod.refl (fun k => k = w.heap.size + 2) w4).setCell (fun _ => rfl) _) (hadC_set1 had ▸ HS4.out.had.set 1 _)
            have HSTEP2 : Hid (R = match takeL p 1 vl with
              | none => (Pm.zero, 3)
              | some p' => preadL f p' (1 :: had) s3) := by
              show _ = _
              rw [← HR0.out, HSTEP.out, if_neg (by simp [HE.out]), if_neg (by rw [← HHB.out]; decide)]
            have HO5 : Hid (OwnB (w4.setCell ⟨w.heap.size + 1 + 1, 1, none⟩ (.bool true)) (w.heap.size + 3) (.slice a4 vl.length c4) vl) := HO4.out.kept ((Mod.refl (fun k => k = w.heap.size + 2) w4).setCell (fun _ => rfl) _) (fun g hg e => by have := (World.ownsRow.lt HO4.out g hg).1; omega)
            have HA : Hid (Blk ((w4.setCell ⟨w.heap.size + 1 + 1, 1, none⟩ (.bool true)).alloc (.cells #[.slice a4 vl.length c4, .int .i64 0, .int .i64 0] 64)) w4.heap.size #[.slice a4 vl.length c4, .int .i64 0, .int .i64 0] 64) := by
              have := Blk.new (w4.setCell ⟨w.heap.size + 1 + 1, 1, none⟩ (.bool true)) #[.slice a4 vl.length c4, .int .i64 0, .int .i64 0] 64
              rw [show ∀ (v : Value) (i : Nat), (w4.setCell ⟨w.heap.size + 1 + 1, i, none⟩ v).heap.size = w4.heap.size from fun v i => by simp [World.setCell]] at this; exact this
            have HMA : Hid (Mod (fun _ => False) (w4.setCell ⟨w.heap.size + 1 + 1, 1, none⟩ (.bool true)) ((w4.setCell ⟨w.heap.size + 1 + 1, 1, none⟩ (.bool true)).alloc (.cells #[.slice a4 vl.length c4, .int .i64 0, .int .i64 0] 64))) := (Mod.refl _ _).alloc _
            have hlt4 := HS4.out.lt
            have HREF : Hid (RefS ((w4.setCell ⟨w.heap.size + 1 + 1, 1, none⟩ (.bool true)).alloc (.cells #[.slice a4 vl.length c4, .int .i64 0, .int .i64 0] 64)) w4.heap.size a4 c4 vl ⟨vl, 0⟩) := ⟨0, 0, by simp [refS], HA.out, (HO5.out.keptF HMA.out).byts, Nat.zero_le _, hv5.out, fun hne x hx e => by
              have := Sl.lt HO4.out.byts (by simpa using hne) x.block (by rw [hx]; rfl)
              omega⟩
            have hint := Lib.hid (refint_any HREF.out)
            obtain ⟨t, ht⟩ : ∃ t, t = RS.int ⟨vl, 0⟩ := ⟨_, rfl⟩
            rw [← ht] at hint
            have HTT := Lib.hid ht
            clear ht
            have HTK : Hid (takeL p 1 vl = intR p 1 t) := by show _ = _; rw [HTT.out]; rfl
            have HS6 := Lib.hid (HS5.out.toF HMA.out)
            go_wp2_with fail
            refine (hint.out).mono ?_
            rintro e w7 ⟨rfl, hr7, hM7⟩
            have HS7 := Lib.hid (HS6.out.toN hM7 hlt4)
            have hbad7 := hr7.bad
            have hleft7 := Lib.hid (refs_left hr7)
            have hc7 : w7.cell? ⟨w.heap.size + 1, 0, none⟩ = some (.int .u64 (p.i : Int)) := HS7.out.pm.blk.cellAt 0 rfl
            have hf7 : w7.frozen? ⟨w.heap.size + 1, 0, none⟩ = false := HS7.out.pm.blk.free 0
            clear hM7 hint hr7
            by_cases hte : t.2.e = 0
            case neg =>
              have hdt : (t.2.e != 0) = true := by simp [hte]
              have HT : Hid (intR p 1 t = none) := by show _ = _; unfold intR; rw [if_neg (by simp [hte])]
              clear hte
              go_wp2_with ((with_reducible refine wpList_store_blk ?_ 25 (.tmp 2) (.tmp 93) ?_ w.heap.size ?_ (pmC Pm.zero) (pmC Pm.zero) ?_ 25 HS7.out.res.blk HZ0.out ?_ ?_ ?_); (· exact rfl); (· exact rfl); (· exact rfl); (· exact rfl); (· exact rfl); (· exact fun v hv => pmC_one Pm.zero v (by simpa [pmC] using hv)); intro wz hBz hMz)
              have hld := blk_loadVar (P := Tryd.prog) hBz Tryd.underlying25 rfl HZ0.out
              refine bodyPost_ret (v := .tuple #[pmV Pm.zero, .int .i64 3]) ?_ rfl ⟨?_, HS7.out.mod.trans' hMz (fun i hi e => by omega)⟩
              · exact results_cell_tmp Tryd.results18 _ rfl hld
              · rw [HSTEP2.out, HTK.out, HT.out]
            case pos =>
              have hdt : (t.2.e != 0) = false := by simp [hte]
              have HTE := Lib.hid hte
              clear hte
              go_wp2_with fail
              refine (hleft7.out).mono ?_
              rintro e w' ⟨⟨q7, rfl⟩, rfl⟩
              have HS8 := Lib.hid (HS7.out.toF ((Mod.refl _ _).drewN q7))
              by_cases htl : t.2.l = []
              case neg =>
                have hdl : ((t.2.l.length : Int) != 0) = true := by
                  have := List.length_pos_iff.2 htl
                  simp only [bne_iff_ne, ne_eq]; omega
                have HT : Hid (intR p 1 t = none) := by show _ = _; unfold intR; rw [if_neg (fun h => htl h.2)]
                clear htl
                go_wp2_with ((with_reducible refine wpList_store_blk ?_ 25 (.tmp 2) (.tmp 93) ?_ w.heap.size ?_ (pmC Pm.zero) (pmC Pm.zero) ?_ 25 HS8.out.res.blk HZ0.out ?_ ?_ ?_); (· exact rfl); (· exact rfl); (· exact rfl); (· exact rfl); (· exact rfl); (· exact fun v hv => pmC_one Pm.zero v (by simpa [pmC] using hv)); intro wz hBz hMz)
                have hld := blk_loadVar (P := Tryd.prog) hBz Tryd.underlying25 rfl HZ0.out
                refine bodyPost_ret (v := .tuple #[pmV Pm.zero, .int .i64 3]) ?_ rfl ⟨?_, HS8.out.mod.trans' hMz (fun i hi e => by omega)⟩
                · exact results_cell_tmp Tryd.results18 _ rfl hld
                · rw [HSTEP2.out, HTK.out, HT.out]
              case pos =>
                have hdl : ((t.2.l.length : Int) != 0) = false := by rw [htl]; rfl
                have HT : Hid (intR p 1 t = some (setP p 1 t.1)) := by show _ = _; unfold intR; rw [if_pos ⟨HTE.out, htl⟩]
                clear htl
                have HS9 : Hid (RfS w ((w7.drewN q7).setCell ⟨w.heap.size + 1, 0, none⟩ (.int .u64 (t.1 : Int))) a cap l (setP p 1 t.1) (1 :: had) s3) := HS8.out.toP ((Mod.refl (fun k => k = w.heap.size + 1) _).setCell (fun _ => rfl) _) ⟨pm_set0 p t.1 ▸ HS8.out.pm.blk.set 0 _, HS8.out.pm.len⟩
                have hl7 := HS9.out.rd.leftAt
                have hl0 := HS.out.1.rd.leftAt
                go_wp2_with fail
                go_roundw
                case rel => exact ⟨_, rfl, setP p 1 t.1, 1 :: had, s3, HS9.out, by have := HLESS.out; have := HS.out.2.1; omega, f, by have := HF.out; have := HLESS.out; omega, by rw [HSTEP2.out, HTK.out, HT.out]⟩
                case measure => rw [hl7, hl0]; exact HLESS.out
          · have hc : w4.cell? ⟨w.heap.size + 1 + 1, 2, none⟩ = some (.bool hb) := by rw [HHB.out]; exact HS4.out.had.cellAt 2 rfl
            have hfz : w4.frozen? ⟨w.heap.size + 1 + 1, 2, none⟩ = false := HS4.out.had.free 2
            cases hb
            case' true =>
              go_wp2_with ((with_reducible refine wpList_store_blk ?_ 25 (.tmp 2) (.tmp 57) ?_ w.heap.size ?_ (pmC Pm.zero) (pmC Pm.zero) ?_ 25 HS4.out.res.blk HZ0.out ?_ ?_ ?_); (· exact rfl); (· exact rfl); (· exact rfl); (· exact rfl); (· exact rfl); (· exact fun v hv => pmC_one Pm.zero v (by simpa [pmC] using hv)); intro wz hBz hMz)
              have hld := blk_loadVar (P := Tryd.prog) hBz Tryd.underlying25 rfl HZ0.out
              refine bodyPost_ret (v := .tuple #[pmV Pm.zero, .int .i64 11]) ?_ rfl ⟨?_, HS4.out.mod.trans' hMz (fun i hi e => by omega)⟩
              · exact results_cell_tmp Tryd.results18 _ rfl hld
              · rw [← HR0.out, HSTEP.out, if_neg (by simp [HE.out]), if_pos (by rw [← HHB.out]; rfl)]
            have HS5 : Hid (RfS w (w4.setCell ⟨w.heap.size + 1 + 1, 2, none⟩ (.bool true)) a cap l p (2 :: had) s3) := HS4.out.toH ((Mod.refl (fun k => k = w.heap.size + 2) w4).setCell (fun _ => rfl) _) (hadC_set2 had ▸ HS4.out.had.set 2 _)
            have HSTEP2 : Hid (R = match takeL p 2 vl with
              | none => (Pm.zero, 3)
              | some p' => preadL f p' (2 :: had) s3) := by
              show _ = _
              rw [← HR0.out, HSTEP.out, if_neg (by simp [HE.out]), if_neg (by rw [← HHB.out]; decide)]
            have HO5 : Hid (OwnB (w4.setCell ⟨w.heap.size + 1 + 1, 2, none⟩ (.bool true)) (w.heap.size + 3) (.slice a4 vl.length c4) vl) := HO4.out.kept ((Mod.refl (fun k => k = w.heap.size + 2) w4).setCell (fun _ => rfl) _) (fun g hg e => by have := (World.ownsRow.lt HO4.out g hg).1; omega)
            by_cases h16 : vl.length = 16
            case neg =>
              have hd16 : ((vl.length : Int) != 16) = true := by simp; omega
              have HT : Hid (takeL p 2 vl = none) := by show _ = _; simp [takeL, h16]
              clear h16
              go_wp2_with ((with_reducible refine wpList_store_blk ?_ 25 (.tmp 2) (.tmp 65) ?_ w.heap.size ?_ (pmC Pm.zero) (pmC Pm.zero) ?_ 25 HS5.out.res.blk HZ0.out ?_ ?_ ?_); (· exact rfl); (· exact rfl); (· exact rfl); (· exact rfl); (· exact rfl); (· exact fun v hv => pmC_one Pm.zero v (by simpa [pmC] using hv)); intro wz hBz hMz)
              have hld := blk_loadVar (P := Tryd.prog) hBz Tryd.underlying25 rfl HZ0.out
              refine bodyPost_ret (v := .tuple #[pmV Pm.zero, .int .i64 3]) ?_ rfl ⟨?_, HS5.out.mod.trans' hMz (fun i hi e => by omega)⟩
              · exact results_cell_tmp Tryd.results18 _ rfl hld
              · rw [HSTEP2.out, HT.out]
            case pos =>
              have hd16 : ((vl.length : Int) != 16) = false := by simp; omega
              have HT : Hid (takeL p 2 vl = some { p with h := true, t := vl }) := by show _ = _; simp [takeL, h16]
              have H16 := Lib.hid h16
              have hc4 : (w4.setCell ⟨w.heap.size + 1 + 1, 2, none⟩ (.bool true)).cell? ⟨w.heap.size + 1, 4, none⟩ = some (.bool p.h) := HS5.out.pm.blk.cellAt 4 rfl
              have hf4 : (w4.setCell ⟨w.heap.size + 1 + 1, 2, none⟩ (.bool true)).frozen? ⟨w.heap.size + 1, 4, none⟩ = false := HS5.out.pm.blk.free 4
              have hM6 : Mod (fun k => k = w.heap.size + 1) (w4.setCell ⟨w.heap.size + 1 + 1, 2, none⟩ (.bool true)) ((w4.setCell ⟨w.heap.size + 1 + 1, 2, none⟩ (.bool true)).setCell ⟨w.heap.size + 1, 4, none⟩ (.bool true)) := (Mod.refl (fun k => k = w.heap.size + 1) _).setCell (fun _ => rfl) _
              have HS6 : Hid (RfS w ((w4.setCell ⟨w.heap.size + 1 + 1, 2, none⟩ (.bool true)).setCell ⟨w.heap.size + 1, 4, none⟩ (.bool true)) a cap l { p with h := true } (2 :: had) s3) := HS5.out.toP hM6 ⟨pm_set4 p true ▸ HS5.out.pm.blk.set 4 _, HS5.out.pm.len⟩
              have HO6 : Hid (OwnB ((w4.setCell ⟨w.heap.size + 1 + 1, 2, none⟩ (.bool true)).setCell ⟨w.heap.size + 1, 4, none⟩ (.bool true)) (w.heap.size + 3) (.slice a4 vl.length c4) vl) := HO5.out.kept hM6 (fun g hg e => by have := (World.ownsRow.lt HO5.out g hg).1; omega)
              obtain ⟨n16, hn16⟩ : ∃ n16, n16 = vl.length := ⟨_, rfl⟩
              have hlit : (n16 : Int) = 16 := by omega
              have HN16 := Lib.hid hn16
              clear h16 hM6
              go_wp2_with fail
              generalize ((w4.setCell ⟨w.heap.size + 1 + 1, 2, none⟩ (.bool true)).setCell ⟨w.heap.size + 1, 4, none⟩ (.bool true)) = w6 at *
              go_loopw [10] (fun s10 wr => ∃ k : Nat, k ≤ 16 ∧ s10 = .int .i64 k ∧ Hid (RfS w wr a cap l { p with h := true, t := vl.take k ++ p.t.drop k } (2 :: had) s3 ∧ OwnB wr (w.heap.size + 3) (.slice a4 vl.length c4) vl)) (fun s10 _ => 16 - (intOf s10).toNat)
              case atStart => exact ⟨0, by omega, rfl, by simpa using HS6.out, HO6.out⟩
              case round =>
                obtain ⟨k, hk, rfl, HI⟩ := hrel
                by_cases hlt : (k : Int) < 16
                · have hkv : k < vl.length := by have := H16.out; omega
                  have e1 : vl[k]? = some vl[k] := List.getElem?_eq_getElem hkv
                  obtain ⟨b4, off4, cp4, hv, hh1, hh2, hcs⟩ := byts_addr HI.out.2.byts (by intro e; rw [e] at hkv; simp at hkv)
                  simp only [Value.slice.injEq] at hv
                  obtain ⟨rfl, _, rfl⟩ := hv
                  have g1 : wr.cell? ⟨b4, off4 + k, none⟩ = some (bv vl[k]) := hcs k _ e1
                  generalize vl[k] = x at *
                  unfold bv at g1
                  have hpc := HI.out.1.pm.blk.cell (5 + k)
                  obtain ⟨pv, hpv⟩ : ∃ pv, (pmC { p with h := true, t := vl.take k ++ p.t.drop k })[5 + k]? = some pv := by
                    have hs := pmC_size { p with h := true, t := vl.take k ++ p.t.drop k } HI.out.1.pm.len
                    exact ⟨_, Array.getElem?_eq_getElem (by rw [hs]; omega)⟩
                  rw [hpv] at hpc
                  have hpf := HI.out.1.pm.blk.free (5 + k)
                  have hMk : Mod (fun k => k = w.heap.size + 1) wr (wr.setCell ⟨w.heap.size + 1, 5 + k, none⟩ (.int .u8 (x.toNat : Int))) := (Mod.refl (fun k => k = w.heap.size + 1) _).setCell (fun _ => rfl) _
                  have hnext : PmB (wr.setCell ⟨w.heap.size + 1, 5 + k, none⟩ (.int .u8 (x.toNat : Int))) (w.heap.size + 1) { p with h := true, t := vl.take (k + 1) ++ p.t.drop (k + 1) } := by
                    have hb := HI.out.1.pm.blk.set (5 + k) (bv x)
                    rw [tok_part { p with h := true } vl k x HS6.out.pm.len H16.out (by omega) e1] at hb
                    exact ⟨hb, tok_part_len p vl (k + 1) HS6.out.pm.len H16.out (by omega)⟩
                  have HI2 : Hid (RfS w (wr.setCell ⟨w.heap.size + 1, 5 + k, none⟩ (.int .u8 (x.toNat : Int))) a cap l { p with h := true, t := vl.take (k + 1) ++ p.t.drop (k + 1) } (2 :: had) s3 ∧ OwnB (wr.setCell ⟨w.heap.size + 1, 5 + k, none⟩ (.int .u8 (x.toNat : Int))) (w.heap.size + 3) (.slice (some ⟨b4, off4, none⟩) vl.length c4) vl) := ⟨HI.out.1.toP hMk hnext, HI.out.2.kept hMk (fun g hg e => by have := (World.ownsRow.lt HI.out.2 g hg).1; omega)⟩
                  have hki : (k : Int) < (vl.length : Int) := by omega
                  clear hpv hMk hnext hcs e1 hkv
                  go_wp2_with fail
                  go_roundw
                  case rel => exact ⟨k + 1, by omega, by go_num, HI2.out⟩
                  case measure => simp [intOf]; omega
                · obtain rfl : k = 16 := by omega
                  have hnew : RfS w wr a cap l { p with h := true, t := vl } (2 :: had) s3 := by
                    have := HI.out.1
                    rw [List.take_of_length_le (by have := H16.out; omega), List.drop_of_length_le (by have : p.t.length = 16 := HS6.out.pm.len; omega), List.append_nil] at this
                    exact this
                  have HNEW := Lib.hid hnew
                  have hl7 := hnew.rd.leftAt
                  have hl0 := HS.out.1.rd.leftAt
                  clear hnew
                  go_wp2_with fail
                  go_roundw
                  case rel => exact ⟨_, rfl, { p with h := true, t := vl }, 2 :: had, s3, HNEW.out, by have := HLESS.out; have := HS.out.2.1; omega, f, by have := HF.out; have := HLESS.out; omega, by rw [HSTEP2.out, HT.out]⟩
                  case measure => rw [hl7, hl0]; exact HLESS.out
          · have hc : w4.cell? ⟨w.heap.size + 1 + 1, 4, none⟩ = some (.bool hb) := by rw [HHB.out]; exact HS4.out.had.cellAt 4 rfl
            have hfz : w4.frozen? ⟨w.heap.size + 1 + 1, 4, none⟩ = false := HS4.out.had.free 4
            cases hb
            case' true =>
              go_wp2_with ((with_reducible refine wpList_store_blk ?_ 25 (.tmp 2) (.tmp 57) ?_ w.heap.size ?_ (pmC Pm.zero) (pmC Pm.zero) ?_ 25 HS4.out.res.blk HZ0.out ?_ ?_ ?_); (· exact rfl); (· exact rfl); (· exact rfl); (· exact rfl); (· exact rfl); (· exact fun v hv => pmC_one Pm.zero v (by simpa [pmC] using hv)); intro wz hBz hMz)
              have hld := blk_loadVar (P := Tryd.prog) hBz Tryd.underlying25 rfl HZ0.out
              refine bodyPost_ret (v := .tuple #[pmV Pm.zero, .int .i64 11]) ?_ rfl ⟨?_, HS4.out.mod.trans' hMz (fun i hi e => by omega)⟩
              · exact results_cell_tmp Tryd.results18 _ rfl hld
              · rw [← HR0.out, HSTEP.out, if_neg (by simp [HE.out]), if_pos (by rw [← HHB.out]; rfl)]
            have HS5 : Hid (RfS w (w4.setCell ⟨w.heap.size + 1 + 1, 4, none⟩ (.bool true)) a cap l p (4 :: had) s3) := HS4.out.toH ((Mod.refl (fun k => k = w.heap.size + 2) w4).setCell (fun _ => rfl) _) (hadC_set4 had ▸ HS4.out.had.set 4 _)
            have HSTEP2 : Hid (R = match takeL p 4 vl with
              | none => (Pm.zero, 3)
              | some p' => preadL f p' (4 :: had) s3) := by
              show _ = _
              rw [← HR0.out, HSTEP.out, if_neg (by simp [HE.out]), if_neg (by rw [← HHB.out]; decide)]
            have HO5 : Hid (OwnB (w4.setCell ⟨w.heap.size + 1 + 1, 4, none⟩ (.bool true)) (w.heap.size + 3) (.slice a4 vl.length c4) vl) := HO4.out.kept ((Mod.refl (fun k => k = w.heap.size + 2) w4).setCell (fun _ => rfl) _) (fun g hg e => by have := (World.ownsRow.lt HO4.out g hg).1; omega)
            have HA : Hid (Blk ((w4.setCell ⟨w.heap.size + 1 + 1, 4, none⟩ (.bool true)).alloc (.cells #[.slice a4 vl.length c4, .int .i64 0, .int .i64 0] 64)) w4.heap.size #[.slice a4 vl.length c4, .int .i64 0, .int .i64 0] 64) := by
              have := Blk.new (w4.setCell ⟨w.heap.size + 1 + 1, 4, none⟩ (.bool true)) #[.slice a4 vl.length c4, .int .i64 0, .int .i64 0] 64
              rw [show ∀ (v : Value) (i : Nat), (w4.setCell ⟨w.heap.size + 1 + 1, i, none⟩ v).heap.size = w4.heap.size from fun v i => by simp [World.setCell]] at this; exact this
            have HMA : Hid (Mod (fun _ => False) (w4.setCell ⟨w.heap.size + 1 + 1, 4, none⟩ (.bool true)) ((w4.setCell ⟨w.heap.size + 1 + 1, 4, none⟩ (.bool true)).alloc (.cells #[.slice a4 vl.length c4, .int .i64 0, .int .i64 0] 64))) := (Mod.refl _ _).alloc _
            have hlt4 := HS4.out.lt
            have HREF : Hid (RefS ((w4.setCell ⟨w.heap.size + 1 + 1, 4, none⟩ (.bool true)).alloc (.cells #[.slice a4 vl.length c4, .int .i64 0, .int .i64 0] 64)) w4.heap.size a4 c4 vl ⟨vl, 0⟩) := ⟨0, 0, by simp [refS], HA.out, (HO5.out.keptF HMA.out).byts, Nat.zero_le _, hv5.out, fun hne x hx e => by
              have := Sl.lt HO4.out.byts (by simpa using hne) x.block (by rw [hx]; rfl)
              omega⟩
            have hint := Lib.hid (refint_any HREF.out)
            obtain ⟨t, ht⟩ : ∃ t, t = RS.int ⟨vl, 0⟩ := ⟨_, rfl⟩
            rw [← ht] at hint
            have HTT := Lib.hid ht
            clear ht
            have HTK : Hid (takeL p 4 vl = intR p 4 t) := by show _ = _; rw [HTT.out]; rfl
            have HS6 := Lib.hid (HS5.out.toF HMA.out)
            go_wp2_with fail
            refine (hint.out).mono ?_
            rintro e w7 ⟨rfl, hr7, hM7⟩
            have HS7 := Lib.hid (HS6.out.toN hM7 hlt4)
            have hbad7 := hr7.bad
            have hleft7 := Lib.hid (refs_left hr7)
            have hc7 : w7.cell? ⟨w.heap.size + 1, 1, none⟩ = some (.int .u64 (p.d : Int)) := HS7.out.pm.blk.cellAt 1 rfl
            have hf7 : w7.frozen? ⟨w.heap.size + 1, 1, none⟩ = false := HS7.out.pm.blk.free 1
            clear hM7 hint hr7
            by_cases hte : t.2.e = 0
            case neg =>
              have hdt : (t.2.e != 0) = true := by simp [hte]
              have HT : Hid (intR p 4 t = none) := by show _ = _; unfold intR; rw [if_neg (by simp [hte])]
              clear hte
              go_wp2_with ((with_reducible refine wpList_store_blk ?_ 25 (.tmp 2) (.tmp 93) ?_ w.heap.size ?_ (pmC Pm.zero) (pmC Pm.zero) ?_ 25 HS7.out.res.blk HZ0.out ?_ ?_ ?_); (· exact rfl); (· exact rfl); (· exact rfl); (· exact rfl); (· exact rfl); (· exact fun v hv => pmC_one Pm.zero v (by simpa [pmC] using hv)); intro wz hBz hMz)
              have hld := blk_loadVar (P := Tryd.prog) hBz Tryd.underlying25 rfl HZ0.out
              refine bodyPost_ret (v := .tuple #[pmV Pm.zero, .int .i64 3]) ?_ rfl ⟨?_, HS7.out.mod.trans' hMz (fun i hi e => by omega)⟩
              · exact results_cell_tmp Tryd.results18 _ rfl hld
              · rw [HSTEP2.out, HTK.out, HT.out]
            case pos =>
              have hdt : (t.2.e != 0) = false := by simp [hte]
              have HTE := Lib.hid hte
              clear hte
              go_wp2_with fail
              refine (hleft7.out).mono ?_
              rintro e w' ⟨⟨q7, rfl⟩, rfl⟩
              have HS8 := Lib.hid (HS7.out.toF ((Mod.refl _ _).drewN q7))
              by_cases htl : t.2.l = []
              case neg =>
                have hdl : ((t.2.l.length : Int) != 0) = true := by
                  have := List.length_pos_iff.2 htl
                  simp only [bne_iff_ne, ne_eq]; omega
                have HT : Hid (intR p 4 t = none) := by show _ = _; unfold intR; rw [if_neg (fun h => htl h.2)]
                clear htl
                go_wp2_with ((with_reducible refine wpList_store_blk ?_ 25 (.tmp 2) (.tmp 93) ?_ w.heap.size ?_ (pmC Pm.zero) (pmC Pm.zero) ?_ 25 HS8.out.res.blk HZ0.out ?_ ?_ ?_); (· exact rfl); (· exact rfl); (· exact rfl); (· exact rfl); (· exact rfl); (· exact fun v hv => pmC_one Pm.zero v (by simpa [pmC] using hv)); intro wz hBz hMz)
                have hld := blk_loadVar (P := Tryd.prog) hBz Tryd.underlying25 rfl HZ0.out
                refine bodyPost_ret (v := .tuple #[pmV Pm.zero, .int .i64 3]) ?_ rfl ⟨?_, HS8.out.mod.trans' hMz (fun i hi e => by omega)⟩
                · exact results_cell_tmp Tryd.results18 _ rfl hld
                · rw [HSTEP2.out, HTK.out, HT.out]
              case pos =>
                have hdl : ((t.2.l.length : Int) != 0) = false := by rw [htl]; rfl
                have HT : Hid (intR p 4 t = some (setP p 4 t.1)) := by show _ = _; unfold intR; rw [if_pos ⟨HTE.out, htl⟩]
                clear htl
                have HS9 : Hid (RfS w ((w7.drewN q7).setCell ⟨w.heap.size + 1, 1, none⟩ (.int .u64 (t.1 : Int))) a cap l (setP p 4 t.1) (4 :: had) s3) := HS8.out.toP ((Mod.refl (fun k => k = w.heap.size + 1) _).setCell (fun _ => rfl) _) ⟨pm_set1 p t.1 ▸ HS8.out.pm.blk.set 1 _, HS8.out.pm.len⟩
                have hl7 := HS9.out.rd.leftAt
                have hl0 := HS.out.1.rd.leftAt
                go_wp2_with fail
                go_roundw
                case rel => exact ⟨_, rfl, setP p 4 t.1, 4 :: had, s3, HS9.out, by have := HLESS.out; have := HS.out.2.1; omega, f, by have := HF.out; have := HLESS.out; omega, by rw [HSTEP2.out, HTK.out, HT.out]⟩
                case measure => rw [hl7, hl0]; exact HLESS.out
          · have hc : w4.cell? ⟨w.heap.size + 1 + 1, 5, none⟩ = some (.bool hb) := by rw [HHB.out]; exact HS4.out.had.cellAt 5 rfl
            have hfz : w4.frozen? ⟨w.heap.size + 1 + 1, 5, none⟩ = false := HS4.out.had.free 5
            cases hb
            case' true =>
              go_wp2_with ((with_reducible refine wpList_store_blk ?_ 25 (.tmp 2) (.tmp 57) ?_ w.heap.size ?_ (pmC Pm.zero) (pmC Pm.zero) ?_ 25 HS4.out.res.blk HZ0.out ?_ ?_ ?_); (· exact rfl); (· exact rfl); (· exact rfl); (· exact rfl); (· exact rfl); (· exact fun v hv => pmC_one Pm.zero v (by simpa [pmC] using hv)); intro wz hBz hMz)
              have hld := blk_loadVar (P := Tryd.prog) hBz Tryd.underlying25 rfl HZ0.out
              refine bodyPost_ret (v := .tuple #[pmV Pm.zero, .int .i64 11]) ?_ rfl ⟨?_, HS4.out.mod.trans' hMz (fun i hi e => by omega)⟩
              · exact results_cell_tmp Tryd.results18 _ rfl hld
              · rw [← HR0.out, HSTEP.out, if_neg (by simp [HE.out]), if_pos (by rw [← HHB.out]; rfl)]
            have HS5 : Hid (RfS w (w4.setCell ⟨w.heap.size + 1 + 1, 5, none⟩ (.bool true)) a cap l p (5 :: had) s3) := HS4.out.toH ((Mod.refl (fun k => k = w.heap.size + 2) w4).setCell (fun _ => rfl) _) (hadC_set5 had ▸ HS4.out.had.set 5 _)
            have HSTEP2 : Hid (R = match takeL p 5 vl with
              | none => (Pm.zero, 3)
              | some p' => preadL f p' (5 :: had) s3) := by
              show _ = _
              rw [← HR0.out, HSTEP.out, if_neg (by simp [HE.out]), if_neg (by rw [← HHB.out]; decide)]
            have HO5 : Hid (OwnB (w4.setCell ⟨w.heap.size + 1 + 1, 5, none⟩ (.bool true)) (w.heap.size + 3) (.slice a4 vl.length c4) vl) := HO4.out.kept ((Mod.refl (fun k => k = w.heap.size + 2) w4).setCell (fun _ => rfl) _) (fun g hg e => by have := (World.ownsRow.lt HO4.out g hg).1; omega)
            have HA : Hid (Blk ((w4.setCell ⟨w.heap.size + 1 + 1, 5, none⟩ (.bool true)).alloc (.cells #[.slice a4 vl.length c4, .int .i64 0, .int .i64 0] 64)) w4.heap.size #[.slice a4 vl.length c4, .int .i64 0, .int .i64 0] 64) := by
              have := Blk.new (w4.setCell ⟨w.heap.size + 1 + 1, 5, none⟩ (.bool true)) #[.slice a4 vl.length c4, .int .i64 0, .int .i64 0] 64
              rw [show ∀ (v : Value) (i : Nat), (w4.setCell ⟨w.heap.size + 1 + 1, i, none⟩ v).heap.size = w4.heap.size from fun v i => by simp [World.setCell]] at this; exact this
            have HMA : Hid (Mod (fun _ => False) (w4.setCell ⟨w.heap.size + 1 + 1, 5, none⟩ (.bool true)) ((w4.setCell ⟨w.heap.size + 1 + 1, 5, none⟩ (.bool true)).alloc (.cells #[.slice a4 vl.length c4, .int .i64 0, .int .i64 0] 64))) := (Mod.refl _ _).alloc _
            have hlt4 := HS4.out.lt
            have HREF : Hid (RefS ((w4.setCell ⟨w.heap.size + 1 + 1, 5, none⟩ (.bool true)).alloc (.cells #[.slice a4 vl.length c4, .int .i64 0, .int .i64 0] 64)) w4.heap.size a4 c4 vl ⟨vl, 0⟩) := ⟨0, 0, by simp [refS], HA.out, (HO5.out.keptF HMA.out).byts, Nat.zero_le _, hv5.out, fun hne x hx e => by
              have := Sl.lt HO4.out.byts (by simpa using hne) x.block (by rw [hx]; rfl)
              omega⟩
            have hint := Lib.hid (refint_any HREF.out)
            obtain ⟨t, ht⟩ : ∃ t, t = RS.int ⟨vl, 0⟩ := ⟨_, rfl⟩
            rw [← ht] at hint
            have HTT := Lib.hid ht
            clear ht
            have HTK : Hid (takeL p 5 vl = intR p 5 t) := by show _ = _; rw [HTT.out]; rfl
            have HS6 := Lib.hid (HS5.out.toF HMA.out)
            go_wp2_with fail
            refine (hint.out).mono ?_
            rintro e w7 ⟨rfl, hr7, hM7⟩
            have HS7 := Lib.hid (HS6.out.toN hM7 hlt4)
            have hbad7 := hr7.bad
            have hleft7 := Lib.hid (refs_left hr7)
            have hc7 : w7.cell? ⟨w.heap.size + 1, 2, none⟩ = some (.int .u64 (p.s : Int)) := HS7.out.pm.blk.cellAt 2 rfl
            have hf7 : w7.frozen? ⟨w.heap.size + 1, 2, none⟩ = false := HS7.out.pm.blk.free 2
            clear hM7 hint hr7
            by_cases hte : t.2.e = 0
            case neg =>
              have hdt : (t.2.e != 0) = true := by simp [hte]
              have HT : Hid (intR p 5 t = none) := by show _ = _; unfold intR; rw [if_neg (by simp [hte])]
              clear hte
              go_wp2_with ((with_reducible refine wpList_store_blk ?_ 25 (.tmp 2) (.tmp 93) ?_ w.heap.size ?_ (pmC Pm.zero) (pmC Pm.zero) ?_ 25 HS7.out.res.blk HZ0.out ?_ ?_ ?_); (· exact rfl); (· exact rfl); (· exact rfl); (· exact rfl); (· exact rfl); (· exact fun v hv => pmC_one Pm.zero v (by simpa [pmC] using hv)); intro wz hBz hMz)
              have hld := blk_loadVar (P := Tryd.prog) hBz Tryd.underlying25 rfl HZ0.out
              refine bodyPost_ret (v := .tuple #[pmV Pm.zero, .int .i64 3]) ?_ rfl ⟨?_, HS7.out.mod.trans' hMz (fun i hi e => by omega)⟩
              · exact results_cell_tmp Tryd.results18 _ rfl hld
              · rw [HSTEP2.out, HTK.out, HT.out]
            case pos =>
              have hdt : (t.2.e != 0) = false := by simp [hte]
              have HTE := Lib.hid hte
              clear hte
              go_wp2_with fail
              refine (hleft7.out).mono ?_
              rintro e w' ⟨⟨q7, rfl⟩, rfl⟩
              have HS8 := Lib.hid (HS7.out.toF ((Mod.refl _ _).drewN q7))
              by_cases htl : t.2.l = []
              case neg =>
                have hdl : ((t.2.l.length : Int) != 0) = true := by
                  have := List.length_pos_iff.2 htl
                  simp only [bne_iff_ne, ne_eq]; omega
                have HT : Hid (intR p 5 t = none) := by show _ = _; unfold intR; rw [if_neg (fun h => htl h.2)]
                clear htl
                go_wp2_with ((with_reducible refine wpList_store_blk ?_ 25 (.tmp 2) (.tmp 93) ?_ w.heap.size ?_ (pmC Pm.zero) (pmC Pm.zero) ?_ 25 HS8.out.res.blk HZ0.out ?_ ?_ ?_); (· exact rfl); (· exact rfl); (· exact rfl); (· exact rfl); (· exact rfl); (· exact fun v hv => pmC_one Pm.zero v (by simpa [pmC] using hv)); intro wz hBz hMz)
                have hld := blk_loadVar (P := Tryd.prog) hBz Tryd.underlying25 rfl HZ0.out
                refine bodyPost_ret (v := .tuple #[pmV Pm.zero, .int .i64 3]) ?_ rfl ⟨?_, HS8.out.mod.trans' hMz (fun i hi e => by omega)⟩
                · exact results_cell_tmp Tryd.results18 _ rfl hld
                · rw [HSTEP2.out, HTK.out, HT.out]
              case pos =>
                have hdl : ((t.2.l.length : Int) != 0) = false := by rw [htl]; rfl
                have HT : Hid (intR p 5 t = some (setP p 5 t.1)) := by show _ = _; unfold intR; rw [if_pos ⟨HTE.out, htl⟩]
                clear htl
                have HS9 : Hid (RfS w ((w7.drewN q7).setCell ⟨w.heap.size + 1, 2, none⟩ (.int .u64 (t.1 : Int))) a cap l (setP p 5 t.1) (5 :: had) s3) := HS8.out.toP ((Mod.refl (fun k => k = w.heap.size + 1) _).setCell (fun _ => rfl) _) ⟨pm_set2 p t.1 ▸ HS8.out.pm.blk.set 2 _, HS8.out.pm.len⟩
                have hl7 := HS9.out.rd.leftAt
                have hl0 := HS.out.1.rd.leftAt
                go_wp2_with fail
                go_roundw
                case rel => exact ⟨_, rfl, setP p 5 t.1, 5 :: had, s3, HS9.out, by have := HLESS.out; have := HS.out.2.1; omega, f, by have := HF.out; have := HLESS.out; omega, by rw [HSTEP2.out, HTK.out, HT.out]⟩
                case measure => rw [hl7, hl0]; exact HLESS.out
          · have hc : w4.cell? ⟨w.heap.size + 1 + 1, 8, none⟩ = some (.bool hb) := by rw [HHB.out]; exact HS4.out.had.cellAt 8 rfl
            have hfz : w4.frozen? ⟨w.heap.size + 1 + 1, 8, none⟩ = false := HS4.out.had.free 8
            cases hb
            case' true =>
              go_wp2_with ((with_reducible refine wpList_store_blk ?_ 25 (.tmp 2) (.tmp 57) ?_ w.heap.size ?_ (pmC Pm.zero) (pmC Pm.zero) ?_ 25 HS4.out.res.blk HZ0.out ?_ ?_ ?_); (· exact rfl); (· exact rfl); (· exact rfl); (· exact rfl); (· exact rfl); (· exact fun v hv => pmC_one Pm.zero v (by simpa [pmC] using hv)); intro wz hBz hMz)
              have hld := blk_loadVar (P := Tryd.prog) hBz Tryd.underlying25 rfl HZ0.out
              refine bodyPost_ret (v := .tuple #[pmV Pm.zero, .int .i64 11]) ?_ rfl ⟨?_, HS4.out.mod.trans' hMz (fun i hi e => by omega)⟩
              · exact results_cell_tmp Tryd.results18 _ rfl hld
              · rw [← HR0.out, HSTEP.out, if_neg (by simp [HE.out]), if_pos (by rw [← HHB.out]; rfl)]
            have HS5 : Hid (RfS w (w4.setCell ⟨w.heap.size + 1 + 1, 8, none⟩ (.bool true)) a cap l p (8 :: had) s3) := HS4.out.toH ((Mod.refl (fun k => k = w.heap.size + 2) w4).setCell (fun _ => rfl) _) (hadC_set8 had ▸ HS4.out.had.set 8 _)
            have HSTEP2 : Hid (R = match takeL p 8 vl with
              | none => (Pm.zero, 3)
              | some p' => preadL f p' (8 :: had) s3) := by
              show _ = _
              rw [← HR0.out, HSTEP.out, if_neg (by simp [HE.out]), if_neg (by rw [← HHB.out]; decide)]
            have HO5 : Hid (OwnB (w4.setCell ⟨w.heap.size + 1 + 1, 8, none⟩ (.bool true)) (w.heap.size + 3) (.slice a4 vl.length c4) vl) := HO4.out.kept ((Mod.refl (fun k => k = w.heap.size + 2) w4).setCell (fun _ => rfl) _) (fun g hg e => by have := (World.ownsRow.lt HO4.out g hg).1; omega)
            have HA : Hid (Blk ((w4.setCell ⟨w.heap.size + 1 + 1, 8, none⟩ (.bool true)).alloc (.cells #[.slice a4 vl.length c4, .int .i64 0, .int .i64 0] 64)) w4.heap.size #[.slice a4 vl.length c4, .int .i64 0, .int .i64 0] 64) := by
              have := Blk.new (w4.setCell ⟨w.heap.size + 1 + 1, 8, none⟩ (.bool true)) #[.slice a4 vl.length c4, .int .i64 0, .int .i64 0] 64
              rw [show ∀ (v : Value) (i : Nat), (w4.setCell ⟨w.heap.size + 1 + 1, i, none⟩ v).heap.size = w4.heap.size from fun v i => by simp [World.setCell]] at this; exact this
            have HMA : Hid (Mod (fun _ => False) (w4.setCell ⟨w.heap.size + 1 + 1, 8, none⟩ (.bool true)) ((w4.setCell ⟨w.heap.size + 1 + 1, 8, none⟩ (.bool true)).alloc (.cells #[.slice a4 vl.length c4, .int .i64 0, .int .i64 0] 64))) := (Mod.refl _ _).alloc _
            have hlt4 := HS4.out.lt
            have HREF : Hid (RefS ((w4.setCell ⟨w.heap.size + 1 + 1, 8, none⟩ (.bool true)).alloc (.cells #[.slice a4 vl.length c4, .int .i64 0, .int .i64 0] 64)) w4.heap.size a4 c4 vl ⟨vl, 0⟩) := ⟨0, 0, by simp [refS], HA.out, (HO5.out.keptF HMA.out).byts, Nat.zero_le _, hv5.out, fun hne x hx e => by
              have := Sl.lt HO4.out.byts (by simpa using hne) x.block (by rw [hx]; rfl)
              omega⟩
            have hint := Lib.hid (refint_any HREF.out)
            obtain ⟨t, ht⟩ : ∃ t, t = RS.int ⟨vl, 0⟩ := ⟨_, rfl⟩
            rw [← ht] at hint
            have HTT := Lib.hid ht
            clear ht
            have HTK : Hid (takeL p 8 vl = intR p 8 t) := by show _ = _; rw [HTT.out]; rfl
            have HS6 := Lib.hid (HS5.out.toF HMA.out)
            go_wp2_with fail
            refine (hint.out).mono ?_
            rintro e w7 ⟨rfl, hr7, hM7⟩
            have HS7 := Lib.hid (HS6.out.toN hM7 hlt4)
            have hbad7 := hr7.bad
            have hleft7 := Lib.hid (refs_left hr7)
            have hc7 : w7.cell? ⟨w.heap.size + 1, 3, none⟩ = some (.int .u64 (p.n : Int)) := HS7.out.pm.blk.cellAt 3 rfl
            have hf7 : w7.frozen? ⟨w.heap.size + 1, 3, none⟩ = false := HS7.out.pm.blk.free 3
            clear hM7 hint hr7
            by_cases hte : t.2.e = 0
            case neg =>
              have hdt : (t.2.e != 0) = true := by simp [hte]
              have HT : Hid (intR p 8 t = none) := by show _ = _; unfold intR; rw [if_neg (by simp [hte])]
              clear hte
              go_wp2_with ((with_reducible refine wpList_store_blk ?_ 25 (.tmp 2) (.tmp 93) ?_ w.heap.size ?_ (pmC Pm.zero) (pmC Pm.zero) ?_ 25 HS7.out.res.blk HZ0.out ?_ ?_ ?_); (· exact rfl); (· exact rfl); (· exact rfl); (· exact rfl); (· exact rfl); (· exact fun v hv => pmC_one Pm.zero v (by simpa [pmC] using hv)); intro wz hBz hMz)
              have hld := blk_loadVar (P := Tryd.prog) hBz Tryd.underlying25 rfl HZ0.out
              refine bodyPost_ret (v := .tuple #[pmV Pm.zero, .int .i64 3]) ?_ rfl ⟨?_, HS7.out.mod.trans' hMz (fun i hi e => by omega)⟩
              · exact results_cell_tmp Tryd.results18 _ rfl hld
              · rw [HSTEP2.out, HTK.out, HT.out]
            case pos =>
              have hdt : (t.2.e != 0) = false := by simp [hte]
              have HTE := Lib.hid hte
              clear hte
              go_wp2_with fail
              refine (hleft7.out).mono ?_
              rintro e w' ⟨⟨q7, rfl⟩, rfl⟩
              have HS8 := Lib.hid (HS7.out.toF ((Mod.refl _ _).drewN q7))
              by_cases htl : t.2.l = []
              case neg =>
                have hdl : ((t.2.l.length : Int) != 0) = true := by
                  have := List.length_pos_iff.2 htl
                  simp only [bne_iff_ne, ne_eq]; omega
                have HT : Hid (intR p 8 t = none) := by show _ = _; unfold intR; rw [if_neg (fun h => htl h.2)]
                clear htl
                go_wp2_with ((with_reducible refine wpList_store_blk ?_ 25 (.tmp 2) (.tmp 93) ?_ w.heap.size ?_ (pmC Pm.zero) (pmC Pm.zero) ?_ 25 HS8.out.res.blk HZ0.out ?_ ?_ ?_); (· exact rfl); (· exact rfl); (· exact rfl); (· exact rfl); (· exact rfl); (· exact fun v hv => pmC_one Pm.zero v (by simpa [pmC] using hv)); intro wz hBz hMz)
                have hld := blk_loadVar (P := Tryd.prog) hBz Tryd.underlying25 rfl HZ0.out
                refine bodyPost_ret (v := .tuple #[pmV Pm.zero, .int .i64 3]) ?_ rfl ⟨?_, HS8.out.mod.trans' hMz (fun i hi e => by omega)⟩
                · exact results_cell_tmp Tryd.results18 _ rfl hld
                · rw [HSTEP2.out, HTK.out, HT.out]
              case pos =>
                have hdl : ((t.2.l.length : Int) != 0) = false := by rw [htl]; rfl
                have HT : Hid (intR p 8 t = some (setP p 8 t.1)) := by show _ = _; unfold intR; rw [if_pos ⟨HTE.out, htl⟩]
                clear htl
                have HS9 : Hid (RfS w ((w7.drewN q7).setCell ⟨w.heap.size + 1, 3, none⟩ (.int .u64 (t.1 : Int))) a cap l (setP p 8 t.1) (8 :: had) s3) := HS8.out.toP ((Mod.refl (fun k => k = w.heap.size + 1) _).setCell (fun _ => rfl) _) ⟨pm_set3 p t.1 ▸ HS8.out.pm.blk.set 3 _, HS8.out.pm.len⟩
                have hl7 := HS9.out.rd.leftAt
                have hl0 := HS.out.1.rd.leftAt
                go_wp2_with fail
                go_roundw
                case rel => exact ⟨_, rfl, setP p 8 t.1, 8 :: had, s3, HS9.out, by have := HLESS.out; have := HS.out.2.1; omega, f, by have := HF.out; have := HLESS.out; omega, by rw [HSTEP2.out, HTK.out, HT.out]⟩
                case measure => rw [hl7, hl0]; exact HLESS.out
end Go.Proofs.YtacgcpofpmkgnaaDoor
