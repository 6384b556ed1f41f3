/- Parts of the proof: SxC OpP. -/
import Derived.Test.YtolgeghdkoodnaaGreatDoorQ01
import Derived.Test.YtolgeghdkoodnaaGreatDoorQ13
import Derived.Test.YtolgeghdkoodnaaGreatDoorQr03
import Derived.Lib.SmallJoins
set_option maxRecDepth 100000
namespace Go.Proofs.YtolgeghdkoodnaaGreatDoor
open Go.RowKit Go.Maps
set_option maxHeartbeats 8000000 in
set_option maxRecDepth 10000 in
theorem room_any {W : World} (hT : Tabs W) {p : Pm} (h16 : p.t.length = 16) {v : Value} {l : List StepV} (hl : Sl W 6 v l.length (l.flatMap stepL)) (hok : ∀ s ∈ l, okStep W s) (x : Int) (hx : 0 ≤ x ∧ x ≤ 65535) :
  Calls Tryz.prog 4 #[.agg (pmC p), v, .int .u16 x] W fun e w' => e = .returned (.bool true) ∧ Below W.heap.size W w' := by
 obtain ⟨va, vc, rfl, -⟩ := Sl.val hl
 have HT := Lib.hid hT
 have HSL := Lib.hid hl
 have HOK := Lib.hid hok
 have H16 := Lib.hid h16
 have HOWN := Lib.hid own_any
 have HMW : Hid (Mod (fun _ => False) W (W.alloc (.cells (pmC p) 29))) := Lib.hid ((Mod.refl _ _).alloc _)
 have HBX := Lib.hid (Blk.new W (pmC p) 29)
 have HAL := Lib.hid (alive_any (W.alloc (.cells (pmC p) 29)) (HMW.out.tabs hT (fun h => h)))
 have HMAY := Lib.hid (fun w => refmay_c h16 w)
 have HX := Lib.hid hx
 have uv : IntKind.i64.wrap x = x := IntWalk.i64_in _ (by omega)
 clear hT hl hok h16 hx
 by_cases h60 : l.length ≤ 60
 ·have t1 : decide ((60 : Int) < (l.length : Int)) = false := decide_eq_false (by omega)
  have t1' : decide (60 < l.length) = false := decide_eq_false (by omega)
  by_cases hs : p.s ≤ 5000
  ·have t2 : decide ((5000 : Int) < (p.s : Int)) = false := decide_eq_false (by omega)
   have t2' : decide (5000 < p.s) = false := decide_eq_false (by omega)
   cases hm : mayB p with
   | true =>
    have HMB := Lib.hid hm
    rw [hm] at HMAY
    have hnb : (l.length : Int) ≤ 60 := by omega
    clear h60 hs hm
    generalize hn : l.length = n at *
    have HN := Lib.hid hn
    clear hn
    go_enter Tryz.func4, Tryz.ntmps4
    go_wp2_with (first
     | (go_at_call 7; (with_reducible refine HAL.out.mono ?_); rintro e w0 ⟨rfl, hm⟩; have HM0 := Lib.hid (HMW.out.trans hm); have HB0 := Lib.hid (hm.blk HBX.out (fun h => h)); have c2 : w0.cell? ⟨W.heap.size, 2, none⟩ = some (.int .u64 (p.s : Int)) := (hm.blk HBX.out (fun h => h)).cellAt 2 rfl; have HL0 := Lib.hid (blk_load_pm (hm.blk HBX.out (fun h => h)) H16.out); clear hm)
     | ((with_reducible refine wpList_load_g 29 (.tmp 3) ?_ ?_ (.pointer (some ⟨W.heap.size, 0, none⟩)) (.agg (pmC p)) ?_ HL0.out ?_); (· exact rfl); (· exact rfl); (· exact rfl))
     | (go_at_call 13; (with_reducible refine (HMAY.out _).mono ?_); rintro e w1 ⟨rfl, hm⟩; have HM1 := Lib.hid (HM0.out.trans hm); have HL1 := Lib.hid (blk_load_pm (hm.blk HB0.out (fun h => h)) H16.out); clear hm)
     | ((with_reducible refine wpList_load_g 29 (.tmp 3) ?_ ?_ (.pointer (some ⟨W.heap.size, 0, none⟩)) (.agg (pmC p)) ?_ HL1.out ?_); (· exact rfl); (· exact rfl); (· exact rfl))
     | (go_at_call 8; (have HQ := Lib.hid (new_s ((At.start W).still HM1.out) true (p := p) HMB.out H16.out)); (with_reducible refine HQ.out.mono ?_); clear HQ; rintro e w2 ⟨tb, mb, G2, rfl, hs⟩; have HS2 := Lib.hid hs; clear hs)
     | (go_at_call 9; (with_reducible refine (HOWN.out _).mono ?_); rintro e w3 ⟨rfl, hm⟩; have HS3 := Lib.hid (HS2.out.still hm); clear hm)
     | (go_at_call 10; (have HQ := Lib.hid (peer_s [] HS3.out (p := own0) rfl rfl)); (with_reducible refine HQ.out.mono ?_); clear HQ; rintro e w4 ⟨rfl, G4, hs⟩; have HS4 : Hid (AtO W w4 tb mb p 0) := Lib.hid ⟨fun _ => ⟨G4, hs⟩, fun e => (by cases e), fun e => (by cases e), fun e => (by cases e)⟩; clear hs)
     | fail)
    clear c2
    go_loopw [8] (fun s8 wr => ∃ i : Nat, i ≤ 3 ∧ s8 = .int .i64 i ∧ Hid (AtO W wr tb mb p i)) (fun s8 _ => 3 - (intOf s8).toNat)
    case atStart => exact ⟨0, by omega, rfl, Lib.hid HS4.out⟩
    case round =>
     obtain ⟨i, hi, rfl, HI⟩ := hrel
     by_cases hi3 : i < 3
     ·have ti : decide ((i : Int) < 3) = true := decide_eq_true (by omega)
      have ti' : decide (i < 3) = true := decide_eq_true hi3
      have te : ((i : Int) == 2) = decide (i = 2) := by rw [Bool.eq_iff_iff]; simp; omega
      have te' : (i == 2) = decide (i = 2) := by rw [Bool.eq_iff_iff]; simp
      have te2 : decide ((i : Int) = 2) = decide (i = 2) := by rw [Bool.eq_iff_iff]; simp; omega
      have HO := Lib.hid (openO_s HI.out hi3)
      generalize hb : decide (i = 2) = b2 at *
      clear hb
      go_wp2_with (first
       | (go_at_call 11; (with_reducible refine HO.out.mono ?_); rintro e w5 ⟨x5, rfl, hs⟩; have HS5 := Lib.hid hs; clear hs)
       | fail)
      go_roundw
      case rel => exact ⟨i + 1, by omega, by simp, Lib.hid HS5.out⟩
      case measure => simp [intOf]; omega
     ·obtain rfl : i = 3 := by omega
      have HC := Lib.hid (HI.out.2.2.2 rfl)
      clear HI hi3 hi
      go_wp2_with fail
      go_loopw [9] (fun s9 wr => ∃ i : Nat, i ≤ n ∧ s9 = .int .i64 i ∧ Hid (AtC W wr tb mb [])) (fun s9 _ => n - (intOf s9).toNat)
      case atStart => exact ⟨0, by omega, rfl, Lib.hid HC.out⟩
      case round =>
       obtain ⟨i, hi, rfl, HI⟩ := hrel
       by_cases hin : i < n
       ·obtain ⟨st, hst⟩ : ∃ st, l[i]? = some st := ⟨_, List.getElem?_eq_getElem (by rw [HN.out]; exact hin)⟩
        obtain ⟨b, off, cap, e, hcell⟩ := steps_at (by have h := HSL.out; rw [← HN.out] at h; exact h) hst
        simp only [Value.slice.injEq] at e
        obtain ⟨rfl, -, rfl⟩ := e
        have hbd := (HOK.out st (List.mem_of_getElem? hst)).1
        obtain ⟨da, dc, hdv, -⟩ := Sl.val hbd
        have hfin := HI.out.fin
        have c4 : wr.cell? ⟨b, off + i * 6 + 4, none⟩ = some (.slice da st.d.length dc) := hfin.cellAt (hcell 4 _ (by rw [← hdv]; rfl)) (fun h => h)
        have HBD : Hid (Byts wr (.slice da st.d.length dc) st.d) := Lib.hid (byts_kept (by rw [← hdv]; exact hbd) hfin)
        have ti : decide ((i : Int) < (n : Int)) = true := decide_eq_true (by omega)
        have ti' : decide (i < n) = true := decide_eq_true hin
        clear hcell hbd hdv hst
        by_cases h300 : st.d.length ≤ 300
        ·have t3 : decide ((300 : Int) < (st.d.length : Int)) = false := decide_eq_false (by omega)
         have t3' : decide (300 < st.d.length) = false := decide_eq_false (by omega)
         have HD300 := Lib.hid h300
         obtain ⟨r, hr⟩ : ∃ r : Int, r = Int.tmod (i : Int) 2 := ⟨_, rfl⟩
         have hr2 : r = 0 ∨ r = 1 := by
          rw [hr, Int.tmod_eq_emod_of_nonneg (by omega)]
          omega
         have hre : Int.tmod (i : Int) 2 = r := hr.symm
         have u4 : IntKind.i64.wrap (4 * r) = 4 * r := IntWalk.i64_in _ (by omega)
         have u5 : IntKind.u64.wrap (4 * r) = 4 * r := IntWalk.u64_in _ (by omega)
         obtain ⟨id, hid, hid2⟩ : ∃ id : Nat, (id : Int) = 4 * r ∧ (id = 0 ∨ id = 4) := by
          rcases hr2 with e | e
          ·exact ⟨0, by rw [e]; rfl, .inl rfl⟩
          ·exact ⟨4, by rw [e]; rfl, .inr rfl⟩
         have HWR := Lib.hid (writeC_s HI.out hid hid2 HBD.out h300)
         clear hr hid hid2 h300 hfin
         generalize st.d.length = dn at *
         go_wp2_with (first
          | (go_at_call 14; (with_reducible refine HWR.out.mono ?_); rintro e w6 ⟨x6, rfl, hs⟩; have HS6 := Lib.hid hs; clear hs)
          | (go_at_call 15; (have HQ := Lib.hid (frmsC_s HS6.out HT.out x (by have := HX.out; omega))); (with_reducible refine HQ.out.mono ?_); clear HQ; rintro e w7 ⟨L, al, cl, D, E, rfl, hs, hall, hsum, hlen⟩; have HS7 := Lib.hid hs; have HA7 := Lib.hid (And.intro hall hsum); have HL7 := Lib.hid hlen; clear hs hall hsum hlen)
          | fail)
         have hmb : (L.length : Int) ≤ 90000 := HL7.out
         generalize hm : L.length = m at *
         have HM := Lib.hid hm
         clear hm c4
         go_loopw [10, 12] (fun s10 s12 wq => ∃ (j q : Nat), s12 = .int .i64 j ∧ s10 = .int .i64 q ∧ j ≤ m ∧ (q : Int) ≤ 65535 ∧ Hid (q = lenF (L.take j)) ∧ Hid (AtC W wq tb mb [frsTh D E (.slice al m cl) L])) (fun _ s12 _ => m - (intOf s12).toNat)
         case atStart => exact ⟨0, 0, rfl, rfl, by omega, by omega, Lib.hid (by simp [lenF]), Lib.hid HS7.out⟩
         case round =>
          obtain ⟨j, q, rfl, rfl, hj, hq, HQ, HJ⟩ := hrel
          by_cases hjm : j < m
          ·obtain ⟨f, hf⟩ : ∃ f, L[j]? = some f := ⟨_, List.getElem?_eq_getElem (by rw [HM.out]; exact hjm)⟩
           have hfo := HA7.out.1 f (List.mem_of_getElem? hf)
           obtain ⟨g, vd, rfl, hv, hrg⟩ := HJ.out.frame hf (by have := hfo.2.2.2.2; omega)
           have HLD : Hid ((Instr.loadAt 52 (.pointer (some ⟨g, j * 24, none⟩))).run Tryz.prog wr = .ok (.agg (frC f vd nilS)) wr) := Lib.hid (run_loadAt_mid wr g (j * 24) 52 (frL f vd nilS) _ hrg Tryz.underlying52 rfl (sizeFrR f vd nilS hv.t))
           have HP := Lib.hid (refstream_any hv hfo)
           have hp1 := strm_pos hfo
           have htk := lenF_take L j f hf
           have hle := lenF_le L (j + 1)
           have hq2 : ((q + (fputL f).length : Nat) : Int) ≤ 65535 := by have h1 := HQ.out; have h2 := HA7.out.2; have h3 := HX.out; omega
           have u6 : IntKind.i64.wrap ((q : Int) + ((fputL f).length : Int)) = ((q + (fputL f).length : Nat) : Int) := by rw [IntWalk.i64_in _ (by omega)]; omega
           have tz : (((fputL f).length : Int) == 0) = false := beq_eq_false_iff_ne.2 (by omega)
           have tz' : ((fputL f).length == 0) = false := beq_eq_false_iff_ne.2 (by omega)
           have HQ2 : Hid (q + (fputL f).length = lenF (L.take (j + 1))) := Lib.hid (by rw [htk, ← HQ.out])
           have tj : decide ((j : Int) < (m : Int)) = true := decide_eq_true (by omega)
           have tj' : decide (j < m) = true := decide_eq_true hjm
           clear hf hfo hv hrg hp1 htk hle
           generalize (fputL f).length = fn at *
           obtain ⟨q2, hq2e⟩ : ∃ q2 : Nat, q2 = q + fn := ⟨_, rfl⟩
           rw [← hq2e] at u6 hq2 HQ2
           clear hq2e
           go_wp2_with (first
            | ((with_reducible refine wpList_load_g 52 (.tmp 78) ?_ ?_ (.pointer (some ⟨g, j * 24, none⟩)) (.agg (frC f vd nilS)) ?_ HLD.out ?_); (· exact rfl); (· exact rfl); (· exact rfl))
            | (go_at_call 16; (with_reducible refine HP.out.mono ?_); rintro e w8 ⟨ap, cp, rfl, hm8⟩; have HS8 := Lib.hid (HJ.out.still hm8); clear hm8)
            | fail)
           go_roundw
           case rel => exact ⟨j + 1, q2, by simp, rfl, by omega, hq2, HQ2, Lib.hid HS8.out⟩
           case measure => simp [intOf]; omega
          ·have ej : m = j := by omega
           subst ej
           have tj : decide ((m : Int) < (m : Int)) = false := decide_eq_false (by omega)
           have tj' : decide (m < m) = false := decide_eq_false (by omega)
           have hq3 : (q : Int) ≤ x := by
            have h1 := HQ.out
            rw [← HM.out, List.take_length] at h1
            have h2 := HA7.out.2
            omega
           have tq : decide (x < (q : Int)) = false := decide_eq_false (by omega)
           clear hq3
           go_wp2_with fail
           go_roundw
           case rel => (repeat apply Exists.intro); exact ⟨⟨i + 1, by omega, by simp, Lib.hid HJ.out.drop⟩, rfl⟩
           case measure => simp [intOf]; omega
        ·have t3 : decide ((300 : Int) < (st.d.length : Int)) = true := decide_eq_true (by omega)
         have t3' : decide (300 < st.d.length) = true := decide_eq_true (by omega)
         clear h300
         generalize st.d.length = dn at *
         go_wp2_with fail
         go_ret
         exact ⟨rfl, Mod.none_belowX HI.out.fin⟩
       ·have ei : n = i := by omega
        subst ei
        have ti : decide ((n : Int) < (n : Int)) = false := decide_eq_false (by omega)
        have ti' : decide (n < n) = false := decide_eq_false (by omega)
        go_wp2_with fail
        go_ret
        exact ⟨rfl, Mod.none_belowX HI.out.fin⟩
   | false =>
    rw [hm] at HMAY
    clear h60 hs hm
    generalize l.length = n at *
    go_enter Tryz.func4, Tryz.ntmps4
    go_wp2_with (first
     | (go_at_call 7; (with_reducible refine HAL.out.mono ?_); rintro e w0 ⟨rfl, hm⟩; have HM0 := Lib.hid (HMW.out.trans hm); have HB0 := Lib.hid (hm.blk HBX.out (fun h => h)); have c2 : w0.cell? ⟨W.heap.size, 2, none⟩ = some (.int .u64 (p.s : Int)) := (hm.blk HBX.out (fun h => h)).cellAt 2 rfl; have HL0 := Lib.hid (blk_load_pm (hm.blk HBX.out (fun h => h)) H16.out); clear hm)
     | ((with_reducible refine wpList_load_g 29 (.tmp 3) ?_ ?_ (.pointer (some ⟨W.heap.size, 0, none⟩)) (.agg (pmC p)) ?_ HL0.out ?_); (· exact rfl); (· exact rfl); (· exact rfl))
     | (go_at_call 13; (with_reducible refine (HMAY.out _).mono ?_); rintro e w1 ⟨rfl, hm⟩; have HM1 := Lib.hid (HM0.out.trans hm); have HL1 := Lib.hid (blk_load_pm (hm.blk HB0.out (fun h => h)) H16.out); clear hm)
     | fail)
    go_ret
    exact ⟨rfl, Mod.none_belowX HM1.out⟩
  ·have t2 : decide ((5000 : Int) < (p.s : Int)) = true := decide_eq_true (by omega)
   have t2' : decide (5000 < p.s) = true := decide_eq_true (by omega)
   clear h60 hs
   generalize l.length = n at *
   go_enter Tryz.func4, Tryz.ntmps4
   go_wp2_with (first
    | (go_at_call 7; (with_reducible refine HAL.out.mono ?_); rintro e w0 ⟨rfl, hm⟩; have HM0 := Lib.hid (HMW.out.trans hm); have HB0 := Lib.hid (hm.blk HBX.out (fun h => h)); have c2 : w0.cell? ⟨W.heap.size, 2, none⟩ = some (.int .u64 (p.s : Int)) := (hm.blk HBX.out (fun h => h)).cellAt 2 rfl; have HL0 := Lib.hid (blk_load_pm (hm.blk HBX.out (fun h => h)) H16.out); clear hm)
    | fail)
   go_ret
   exact ⟨rfl, Mod.none_belowX HM0.out⟩
 ·have t1 : decide ((60 : Int) < (l.length : Int)) = true := decide_eq_true (by omega)
  have t1' : decide (60 < l.length) = true := decide_eq_true (by omega)
  clear h60
  generalize l.length = n at *
  go_enter Tryz.func4, Tryz.ntmps4
  go_wp2_with (first
   | (go_at_call 7; (with_reducible refine HAL.out.mono ?_); rintro e w0 ⟨rfl, hm⟩; have HM0 := Lib.hid (HMW.out.trans hm); have HB0 := Lib.hid (hm.blk HBX.out (fun h => h)); have c2 : w0.cell? ⟨W.heap.size, 2, none⟩ = some (.int .u64 (p.s : Int)) := (hm.blk HBX.out (fun h => h)).cellAt 2 rfl; have HL0 := Lib.hid (blk_load_pm (hm.blk HBX.out (fun h => h)) H16.out); clear hm)
   | fail)
  go_ret
  exact ⟨rfl, Mod.none_belowX HM0.out⟩
end Go.Proofs.YtolgeghdkoodnaaGreatDoor
set_option maxRecDepth 100000
namespace Go.Proofs.YtolgeghdkoodnaaGreatDoor
open Go.Joins Go.ChangeShapes Go.WideShapes Go.RowKit
theorem bytes_cells : ∀ l : List Value, (∀ (i : Nat), i < l.length → ∃ z : Int, l[i]? = some (.int .u8 z) ∧ 0 ≤ z ∧ z ≤ 255) → ∃ t : List UInt8, l = t.map bv
 | [], _ => ⟨[], rfl⟩
 | v :: r, h => by
  obtain ⟨z, h0, hz⟩ := h 0 (by simp)
  obtain ⟨t, ht⟩ := bytes_cells r (fun i hi => by
   obtain ⟨z, h1, h2⟩ := h (i + 1) (by simp; omega)
   exact ⟨z, by simpa using h1, h2⟩)
  simp at h0
  exact ⟨UInt8.ofNat z.toNat :: t, by rw [h0, ht, List.map_cons, bv_of hz]⟩
theorem five {l : List Value} (h : l.length = 21) : ∃ c0 c1 c2 c3 c4 r, l = c0 :: c1 :: c2 :: c3 :: c4 :: r ∧ r.length = 16 := by
 match l, h with
 | c0 :: c1 :: c2 :: c3 :: c4 :: r, h => exact ⟨c0, c1, c2, c3, c4, r, rfl, by simpa using h⟩
theorem open_pm {H : Type} {enc : TypeId × Value → H} {W : World} {v : Value} {d : DataW H} {p : List MemPlace} {base : Nat} (hval : Value.okWide Tryz.prog W .any base 29 v)
  (h : DataW.Trod enc Tryz.prog W 0 (fun _ => true) true 29 v d p) : ∃ q : Pm, v = pmV q ∧ q.t.length = 16 := by
 obtain ⟨cs, rfl, hsz⟩ := okWide_struct Tryz.underlying29 hval
 obtain ⟨l⟩ := cs
 have hl : l.length = 21 := hsz.trans (show Program.cellsOf Tryz.prog 29 = 21 by kernel_rfl)
 obtain ⟨c0, c1, c2, c3, c4, r, rfl, hr⟩ := five hl
 obtain ⟨fuel, hf⟩ := h
 obtain ⟨xs, n, _, hx, _, hlen, hg⟩ := DataW.trod_struct Tryz.underlying29 hf
 have z8 : Program.cellsOf Tryz.prog 26 = 1 := by kernel_rfl
 have zb : Program.cellsOf Tryz.prog 4 = 1 := by kernel_rfl
 have zt : Program.cellsOf Tryz.prog 27 = 16 := by kernel_rfl
 have zu : Program.cellsOf Tryz.prog 5 = 1 := by kernel_rfl
 match xs, hlen with
 | [y0, y1, y2, y3, y4, y5], _ =>
  have h0 : DataW.trod enc Tryz.prog W 0 (fun _ => true) true n 26 [c0] = some y0 := by simpa [Value.cells, z8] using hg 0 _ rfl
  have h1 : DataW.trod enc Tryz.prog W 0 (fun _ => true) true n 26 [c1] = some y1 := by simpa [Value.cells, z8] using hg 1 _ rfl
  have h2 : DataW.trod enc Tryz.prog W 0 (fun _ => true) true n 26 [c2] = some y2 := by simpa [Value.cells, z8] using hg 2 _ rfl
  have h3 : DataW.trod enc Tryz.prog W 0 (fun _ => true) true n 26 [c3] = some y3 := by simpa [Value.cells, z8] using hg 3 _ rfl
  have h4 : DataW.trod enc Tryz.prog W 0 (fun _ => true) true n 4 [c4] = some y4 := by simpa [Value.cells, zb] using hg 4 _ rfl
  have h5 : DataW.trod enc Tryz.prog W 0 (fun _ => true) true n 27 r = some y5 := by
   have := hg 5 _ rfl
   simp [Value.cells, zt] at this
   rwa [List.take_of_length_le (by omega)] at this
  obtain ⟨n0, e0, _, w0⟩ := DataW.trod_int Tryz.underlying26 h0
  obtain ⟨n1, e1, _, w1⟩ := DataW.trod_int Tryz.underlying26 h1
  obtain ⟨n2, e2, _, w2⟩ := DataW.trod_int Tryz.underlying26 h2
  obtain ⟨n3, e3, _, w3⟩ := DataW.trod_int Tryz.underlying26 h3
  obtain ⟨b4, e4, _⟩ := DataW.trod_bool Tryz.underlying4 h4
  obtain rfl : c0 = .int .u64 n0 := by simpa using e0
  obtain rfl : c1 = .int .u64 n1 := by simpa using e1
  obtain rfl : c2 = .int .u64 n2 := by simpa using e2
  obtain rfl : c3 = .int .u64 n3 := by simpa using e3
  obtain rfl : c4 = .bool b4 := by simpa using e4
  obtain ⟨m0, rfl⟩ := Int.eq_ofNat_of_zero_le (bounds_u64 w0).1
  obtain ⟨m1, rfl⟩ := Int.eq_ofNat_of_zero_le (bounds_u64 w1).1
  obtain ⟨m2, rfl⟩ := Int.eq_ofNat_of_zero_le (bounds_u64 w2).1
  obtain ⟨m3, rfl⟩ := Int.eq_ofNat_of_zero_le (bounds_u64 w3).1
  obtain ⟨ys, m, _, _, _, hys, hel⟩ := DataW.trod_array Tryz.underlying27 h5
  obtain ⟨t, ht⟩ := bytes_cells r (fun i hi => by
   have hi' : i < 16 := by omega
   have h1 := hel i hi'
   rw [zu, Nat.mul_one, List.getElem?_eq_getElem (by omega)] at h1
   obtain ⟨z, e, _, wz⟩ := DataW.trod_int Tryz.underlying5 h1
   have e2 : r[i]? = some (.int .u8 z) := by
    have := congrArg (fun x => x[0]?) e
    simpa [List.getElem?_take] using this
   exact ⟨z, e2, bounds_u8 wz⟩)
  subst ht
  exact ⟨⟨m0, m1, m2, m3, b4, t⟩, rfl, by simpa using hr⟩
end Go.Proofs.YtolgeghdkoodnaaGreatDoor
