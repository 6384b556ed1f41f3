/- Parts of the proof: SuI SvA Ths. -/
import Derived.Test.YtahgidkpjmecdaaGreatDoorB01
import Derived.Test.YtahgidkpjmecdaaGreatDoorB17
set_option maxRecDepth 100000
namespace Go.Proofs.YtahgidkpjmecdaaGreatDoor
open Go.RowKit Go.Maps
def FramesR (B : Nat) (w w' : World) (tb mb : Nat) (G : Int → SM) (T : Tb) (room : Int) (e : Ending) : Prop :=
 ∃ v, e = .returned v ∧ OwnFI w' w.heap.size w'.heap.size v (framesO T room).l ∧ TT B w w' tb mb G G T (framesO T room).T ∧ (∀ k, TS tb mb G (framesO T room).T k → TS tb mb G T k) ∧ FInv (framesO T room).T ∧ (framesO T room).T.dom = T.dom ∧ ((framesO T room).l.length : Int) ≤ 90000
theorem OwnFI.fit {D E : Nat} {wr w' : World} {rb ob : Nat} {v v' u : Value} {L : List Fr} (hu : OwnFI wr D E u L) (hD : rb < D ∧ ob < D ∧ E ≤ wr.heap.size) (hv : ∀ k, v.ownBlock = some k → k < D ∨ E ≤ k) (hM : Mod (FSS rb ob v) wr w') (hn : ∀ k, v'.ownBlock = some k → v.ownBlock = some k ∨ wr.heap.size ≤ k) :
  OwnFI w' D E u L ∧ E ≤ w'.heap.size ∧ ∀ k, v'.ownBlock = some k → k < D ∨ E ≤ k := by
 refine ⟨hu.kept hM (fun b h1 h2 e => ?_), Nat.le_trans hD.2.2 hM.size, fun k hk => ?_⟩
 ·rcases e with e | e | e
  ·omega
  ·omega
  ·rcases hv b e with h | h <;> omega
 ·rcases hn k hk with h | h
  ·exact hv k h
  ·right; omega
theorem FC.keep {B : Nat} {w : World} {tb mb : Nat} {G : Int → SM} {T : Tb} {rb ob : Nat} {wr w' : World} {s : FO} {v v' : Value} (h : FC B w tb mb G T rb ob wr s v) (hFS : FS w.heap.size w' rb ob s.room v' s.l) (hM : Mod (FSS rb ob v) wr w') :
  FC B w tb mb G T rb ob w' s v' := by
 have hlt := h.lt
 have hfs := h.fss
 exact ⟨⟨h.tt.1.kept hM (fun k hk e => by have := hlt k hk; have := hfs k e; omega), fun k hk => (h.tt.2.1 k hk).imp_right (fun e => ⟨e.1, Nat.lt_of_lt_of_le e.2 hM.size⟩), h.tt.2.2.trans' hM (fun k hk e => by have := hfs k e; omega)⟩, hFS, h.inv, h.dom, hM.tabs h.tabs (fun e => by have := hfs _ e; have := block_lt_of_cell h.tab0.1; dsimp only at this; omega), h.sub, h.room, h.tab0, h.gb, h.old⟩
theorem framesO_ret {T : Tb} {room : Int} {R : FO} (h : phase1 (sortI T.dom) ⟨T, room, [], false⟩ = R) (hr : R.ret = true) : framesO T room = R := by
 unfold framesO
 rw [h]
 simp only [hr, if_true]
theorem dueL_frames (s : St) (id : Nat) : ∀ f ∈ dueL s id, f.d = [] ∧ f.rs = [] ∧ f.t.length = 16 ∧ (okKey f.k ∧ K4 f.k) ∧ tellK f.k := by
 intro f hf
 have k4 : okKey 4 := okKey_small (by decide) (by decide)
 have k17 : okKey 17 := okKey_small (by decide) (by decide)
 unfold dueL at hf
 rcases List.mem_append.1 hf with h | h
 ·split at h
  ·have := List.mem_singleton.1 h
   subst this
   exact ⟨rfl, rfl, rfl, ⟨k4, .inl rfl⟩, .inl rfl⟩
  ·cases h
 ·split at h
  ·have := List.mem_singleton.1 h
   subst this
   exact ⟨rfl, rfl, rfl, ⟨k17, .inr (.inr (.inr rfl))⟩, .inr (.inr rfl)⟩
  ·cases h
theorem dueL_len (s : St) (id : Nat) : ((dueL s id).length : Int) ≤ 2 := by
 unfold dueL
 rw [List.length_append]
 have h1 : (if s.tR then [resetF id ((s.out.map sentO).getD 0) s.code] else []).length ≤ 1 := by split <;> simp
 have h2 : (if s.tM && !s.over then [limitF id ((s.inn.map (fun o => o.read + o.win)).getD 0)] else []).length ≤ 1 := by split <;> simp
 omega
theorem FC.fitX {B : Nat} {w : World} {tb mb : Nat} {G : Int → SM} {T : Tb} {rb D E : Nat} {wr w4 w5 : World} {s s4 : FO} {v v5 u ud : Value} {C : Array Value} {ids : List Int} {Ld : List Fr} {X Y : Prop} (h4 : FC B w tb mb G T rb (rb + 1) w4 s4 v) (h04 : Mod (fun _ => False) wr w4) (hDE : D ≤ E)
  (hJ : FC B w tb mb G T rb (rb + 1) wr s v ∧ OwnU wr (rb + 2) u ids ∧ OwnFI wr D E ud Ld ∧ E ≤ wr.heap.size ∧ (∀ k, v.ownBlock = some k → k < D ∨ E ≤ k) ∧ X ∧ Y) (hB : Blk w4 wr.heap.size C 91) (hD : rb + 1 < D) (hM : Mod (FSS rb (rb + 1) v) w4 w5) (hn : ∀ k, v5.ownBlock = some k → v.ownBlock = some k ∨ w4.heap.size ≤ k) :
  Blk w5 wr.heap.size C 91 ∧ OwnU w5 (rb + 2) u ids ∧ OwnFI w5 D E ud Ld ∧ E ≤ w5.heap.size ∧ ∀ k, v5.ownBlock = some k → k < D ∨ E ≤ k := by
 obtain ⟨h1, h2, h3, h5, h6, -⟩ := hJ
 refine ⟨hM.blk hB (fun e => ?_), (h2.kept h04 (fun _ _ h => h)).fit h4.fs hM, OwnFI.fit (h3.still h04) ⟨by omega, by omega, Nat.le_trans h5 h04.size⟩ h6 hM hn⟩
 rcases e with e | e | e
 ·omega
 ·omega
 ·have := (h1.fs.own.lt _ e).2; omega
set_option maxHeartbeats 4000000 in
theorem frames_any {B : Nat} {w : World} {tb mb : Nat} {G : Int → SM} {T : Tb} (q : TBuf B w tb mb G T) (hi : FInv T) (ht : Tabs w) (hg : 1 < B) (room : Int) (hr : 0 ≤ room ∧ room ≤ 80000) :
  Calls Tryz.prog 32 #[.pointer (some ⟨tb, 0, none⟩), .int .i64 room] w fun e w' => FramesR B w w' tb mb G T room e := by
 have HF0 := Lib.hid (FC.start q hi ht hg room hr)
 have HID := Lib.hid (fun W (hm : Mod (fun _ => False) w W) => ids_any (q.still hm) hi.len)
 have HSZ : Hid (((w.alloc (.cells #[.int .i64 room] 3)).alloc (.cells #[.slice none 0 0] 86)).heap.size = w.heap.size + 2) := Lib.hid (by simp)
 have HMW : Hid (Mod (fun _ => False) w ((w.alloc (.cells #[.int .i64 room] 3)).alloc (.cells #[.slice none 0 0] 86))) := Lib.hid (((Mod.refl _ _).alloc _).alloc _)
 have HI := Lib.hid hi
 clear q hi ht hg hr
 go_enter Tryz.func32, Tryz.ntmps32
 go_wp2_with (first
  | (go_at_call 37; (with_reducible refine (HID.out _ HMW.out).mono ?_); rintro e w1 ⟨v, rfl, hv, hm⟩; obtain ⟨a, cap, rfl⟩ := hv.val; have HV := Lib.hid hv; have HM := Lib.hid hm; clear hv hm)
  | fail)
 generalize hL : sortI T.dom = L at *
 have HL := Lib.hid hL
 clear hL
 have hnb : (L.length : Int) ≤ 1000 := by rw [← HL.out, sortI_len]; have := HI.out.small.len; omega
 generalize hn : L.length = n at *
 have HLn := Lib.hid hn
 clear hn
 obtain ⟨R1, hR1⟩ : ∃ R1, R1 = phase1 L ⟨T, room, [], false⟩ := ⟨_, rfl⟩
 have HR1 := Lib.hid hR1
 clear hR1
 have HF1 := Lib.hid (HF0.out.still HM.out)
 generalize hrb : w.heap.size = rb at *
 have HRB := Lib.hid hrb
 clear hrb
 have HU0 : Hid (OwnU w1 (rb + 2) (.slice a n cap) L) := Lib.hid (by have := HV.out; rw [HSZ.out] at this; exact this)
 clear HF0 HV HID HMW HM HSZ
 go_loopw [21] (fun s21 wr => ∃ (i : Nat) (s : FO) (vv : Value), i ≤ n ∧ s21 = .int .i64 i ∧ Hid (FC B w tb mb G T rb (rb + 1) wr s vv ∧ OwnU wr (rb + 2) (.slice a n cap) L ∧ phase1 (L.drop i) s = R1 ∧ s.ret = false)) (fun s21 _ => n - (intOf s21).toNat)
 case atStart => exact ⟨0, _, _, Nat.zero_le _, rfl, Lib.hid ⟨HF1.out, HU0.out, HR1.out.symm, rfl⟩⟩
 case round =>
  obtain ⟨i, s, vv, hin, rfl, HC⟩ := hrel
  by_cases hlt : i < n
  ·obtain ⟨z, hz⟩ : ∃ z, L[i]? = some z := ⟨_, List.getElem?_eq_getElem (by rw [HLn.out]; exact hlt)⟩
   obtain ⟨g, rfl, cg⟩ := HC.out.2.1.at hz
   have hzd : z ∈ s.T.dom := by rw [HC.out.1.dom, ← sortI_mem, HL.out]; exact List.mem_of_getElem? hz
   have q1 := HC.out.1.tt.1
   have cm := q1.mapc
   have hl := q1.lookI hzd
   obtain ⟨id, rfl⟩ := Int.eq_ofNat_of_zero_le (HC.out.1.inv.ids z hzd).1
   have HDU := Lib.hid (due_any (q1.strs _ hzd) id (HC.out.1.inv.tS _ hzd) (HC.out.1.inv.tR _ hzd) (HC.out.1.inv.tM _ hzd))
   have HZD := Lib.hid hzd
   have HZI := Lib.hid hz
   have tl : decide ((i : Int) < (n : Int)) = true := decide_eq_true (by omega)
   clear q1 hzd hz
   go_wp2_with (first
    | (go_at_call 55; (with_reducible refine HDU.out.mono ?_); rintro e w2 ⟨vd, rfl, hvd, hm⟩; obtain ⟨da, dc, rfl⟩ := hvd.val; have HVD := Lib.hid hvd; have HM2 := Lib.hid hm; clear hvd hm)
    | fail)
   have HC2 := Lib.hid (HC.out.1.still HM2.out)
   have HU2 : Hid (OwnU w2 (rb + 2) (.slice (some ⟨g, 0, none⟩) n cap) L) := Lib.hid (HC.out.2.1.kept HM2.out (fun _ _ h => h))
   have HDL := Lib.hid (dueL_frames (s.T.m id) id)
   have HD1 := Lib.hid (HC.out.1.inv.due (id := id) HZD.out)
   obtain ⟨R2, hR2⟩ : ∃ R2, R2 = dueStep id (dueL (s.T.m id) id) s := ⟨_, rfl⟩
   have HR2 := Lib.hid hR2
   clear hR2
   have HVB : Hid (∀ k, vv.ownBlock = some k → k < wr.heap.size) := Lib.hid (fun k hk => (HC.out.1.fs.own.lt k hk).2)
   have HRW : Hid (rb + 1 < wr.heap.size) := Lib.hid HC.out.1.fs.o.lt
   generalize hLd : dueL (s.T.m id) id = Ld at *
   have HLD := Lib.hid hLd
   clear hLd
   have hmb : (Ld.length : Int) ≤ 2 := by rw [← HLD.out]; exact dueL_len _ _
   generalize hm : Ld.length = m at *
   have HLm := Lib.hid hm
   clear hm
   have HDR : Hid (s.ret = false) := Lib.hid HC.out.2.2.2
   clear cg cm hl
   generalize hDD : wr.heap.size = D at *
   have HDE : Hid (D ≤ w2.heap.size) := Lib.hid (by have := HM2.out.size; omega)
   have HDD := Lib.hid hDD
   clear hDD
   go_loopw [34] (fun s34 wq => ∃ (j : Nat) (s' : FO) (vq : Value), j ≤ m ∧ s34 = .int .i64 j ∧ Hid (FC B w tb mb G T rb (rb + 1) wq s' vq ∧ OwnU wq (rb + 2) (.slice (some ⟨g, 0, none⟩) n cap) L ∧ OwnFI wq D w2.heap.size (.slice da m dc) Ld ∧ w2.heap.size ≤ wq.heap.size ∧ (∀ k, vq.ownBlock = some k → k < D ∨ w2.heap.size ≤ k) ∧ dueStep id (Ld.drop j) s' = R2 ∧ s'.ret = false)) (fun s34 _ => m - (intOf s34).toNat)
   case atStart => exact ⟨0, s, vv, Nat.zero_le _, rfl, Lib.hid ⟨HC2.out, HU2.out, HVD.out, Nat.le_refl _, fun k hk => .inl (HVB.out k hk), HR2.out.symm, HDR.out⟩⟩
   case round =>
    obtain ⟨j, s', vq, hjm, rfl, HJ⟩ := hrel
    by_cases hj : j < m
    ·obtain ⟨f, hf⟩ : ∃ f, Ld[j]? = some f := ⟨_, List.getElem?_eq_getElem (by rw [HLm.out]; exact hj)⟩
     obtain ⟨fd, fr, f16, fk, ftk⟩ := HDL.out f (List.mem_of_getElem? hf)
     obtain ⟨gd, c, rfl, hfi, hrg⟩ := HJ.out.2.2.1.at hf
     obtain ⟨vdd, rfl, hvdd⟩ := hfi.frv (by rw [fd]; decide)
     obtain ⟨aa, cc, rfl, -⟩ := Sl.val hvdd.d
     have HFI := Lib.hid hfi
     have HFV := Lib.hid hvdd
     have HRG : Hid (wr.rangeAt gd (j * 24) (frL f (.slice aa f.d.length cc) nilS)) := Lib.hid hrg
     have HSZ := Lib.hid (sizeFrR f (.slice aa f.d.length cc) nilS f16)
     have HSL : Hid ((Tryz.prog.info? 91).map (·.size) = some (frL f (.slice aa f.d.length cc) nilS).length) := Lib.hid (HSZ.out.trans (by unfold frC; rw [List.size_toArray]))
     have HFL : Hid (frZx.size = (frC f (.slice aa f.d.length cc) nilS).size) := Lib.hid (frC_size _ _ _ f16).symm
     have HP := Lib.hid (And.intro fd (And.intro fr (And.intro f16 (And.intro fk ftk))))
     have HFJ := Lib.hid hf
     have tj : decide ((j : Int) < (m : Int)) = true := decide_eq_true (by omega)
     clear hf fd fr f16 fk ftk hfi hrg hvdd
     have hnx : dueStep id (Ld.drop j) s' = if fitB f s'.room then dueStep id (Ld.drop (j + 1)) ⟨untell s'.T id f.k, s'.room - (fputL f).length, s'.l ++ [f], false⟩ else { s' with ret := true } := by
      have hj2 := (List.getElem?_eq_some_iff.1 HFJ.out).1
      rw [List.drop_eq_getElem_cons hj2, (List.getElem?_eq_some_iff.1 HFJ.out).2]
      rfl
     have HNX := Lib.hid hnx
     clear hnx
     cases hfb : fitB f s'.room with
     | false =>
      have HFB := Lib.hid hfb
      clear hfb
      go_wp2_with (first
       | ((with_reducible refine wpList_load_mid ?_ 91 (.tmp 36) ?_ gd (j * 24) ?_ (frL f (.slice aa f.d.length cc) nilS) _ HRG.out Tryz.underlying91 ?_ HSL.out ?_); (iterate 4 exact rfl))
       | ((with_reducible refine wpList_store_blk ?_ 91 (.tmp 10) (.tmp 37) ?_ wr.heap.size ?_ frZx (frC f (.slice aa f.d.length cc) nilS) ?_ 91 (Blk.new _ _ _) HSZ.out HFL.out (frC_one1 _ _ _ _) ?_); (iterate 4 exact rfl); intro w4 hB4 hM4; go_loud (have HB4 := Lib.hid hB4; have HMW4 : Hid (Mod (fun _ => False) wr w4) := Lib.hid (((Mod.refl (fun _ => False) wr).alloc _).trans' hM4 (fun k hk e => by omega)); have HC4 := Lib.hid (HJ.out.1.still HMW4.out); have HFIT := Lib.hid (fit_any HC4.out.fs HC4.out.tabs ((HFI.out.more (E' := w4.heap.size) (Nat.le_trans HJ.out.2.2.2.1 HMW4.out.size) (by have := HRW.out; have := HRB.out; omega)).kept HMW4.out (fun _ _ _ _ _ h => h)) (HFV.out.kept HMW4.out) (by rw [HP.out.2.1]; decide) HP.out.2.2.2.1.1 (rng_of HP.out.2.1 HP.out.2.2.2.1.2) (by have := HC4.out.room; omega) (fputL_le HFV.out) (by have := HC4.out.room; omega) (HC4.out.tt.2.2.size)); clear hB4 hM4))
       | ((with_reducible refine wpList_load_blk ?_ 91 (.tmp 10) ?_ wr.heap.size ?_ (frC f (.slice aa f.d.length cc) nilS) 91 _ HB4.out Tryz.underlying91 ?_ HSZ.out ?_); (iterate 4 exact rfl))
       | (go_at_call 53; (with_reducible refine HFIT.out.mono ?_); rintro e w5 ⟨he, v5, hFS, hM5, hn5⟩; rw [HFB.out] at he; subst he; rw [HFB.out] at hFS; have HFS := Lib.hid hFS; have co5 : w5.cell? ⟨rb + 1, 0, none⟩ = some v5 := hFS.o.cellAt 0 rfl; have HM5 := Lib.hid hM5; have HN5 := Lib.hid hn5; clear hFS hM5 hn5)
       | fail)
      have hc5 := HC4.out.keep (v' := v5) (by have := HFS.out; rw [if_neg (by decide), if_neg (by decide)] at this; exact this) HM5.out
      have e2 : R2 = { s' with ret := true } := by
       rw [← HJ.out.2.2.2.2.2.1, HNX.out, HFB.out, if_neg (by decide)]
      have e1 : R1 = R2 := by
       have hi2 := (List.getElem?_eq_some_iff.1 HZI.out).1
       rw [← HC.out.2.2.1, List.drop_eq_getElem_cons hi2, (List.getElem?_eq_some_iff.1 HZI.out).2]
       show (if (dueStep id (dueL (s.T.m id) id) s).ret then dueStep id (dueL (s.T.m id) id) s else _) = R2
       rw [HLD.out, ← HR2.out, e2]
       rfl
      have ef := framesO_ret (T := T) (room := room) (R := R1) (by rw [HL.out]; exact HR1.out.symm) (by rw [e1, e2])
      rw [e1, e2] at ef
      refine bodyPost_ret (results_tmp rfl _ _ _) rfl ?_
      unfold FramesR
      rw [ef]
      exact ⟨_, rfl, hc5.fs.own, hc5.tt, hc5.sub, hc5.inv, hc5.dom, by have := hc5.room; (try dsimp only at this ⊢); omega⟩
     | true =>
      have HFB := Lib.hid hfb
      clear hfb
      have HPOS : Hid (1 ≤ (fputL f).length) := Lib.hid (HD1.out f (List.mem_of_getElem? HFJ.out))
      go_upto_region 11 with (first
       | ((with_reducible refine wpList_load_mid ?_ 91 (.tmp 36) ?_ gd (j * 24) ?_ (frL f (.slice aa f.d.length cc) nilS) _ HRG.out Tryz.underlying91 ?_ HSL.out ?_); (iterate 4 exact rfl))
       | ((with_reducible refine wpList_store_blk ?_ 91 (.tmp 10) (.tmp 37) ?_ wr.heap.size ?_ frZx (frC f (.slice aa f.d.length cc) nilS) ?_ 91 (Blk.new _ _ _) HSZ.out HFL.out (frC_one1 _ _ _ _) ?_); (iterate 4 exact rfl); intro w4 hB4 hM4; go_loud (have HB4 := Lib.hid hB4; have HMW4 : Hid (Mod (fun _ => False) wr w4) := Lib.hid (((Mod.refl (fun _ => False) wr).alloc _).trans' hM4 (fun k hk e => by omega)); have HC4 := Lib.hid (HJ.out.1.still HMW4.out); have HFIT := Lib.hid (fit_any HC4.out.fs HC4.out.tabs ((HFI.out.more (E' := w4.heap.size) (Nat.le_trans HJ.out.2.2.2.1 HMW4.out.size) (by have := HRW.out; have := HRB.out; omega)).kept HMW4.out (fun _ _ _ _ _ h => h)) (HFV.out.kept HMW4.out) (by rw [HP.out.2.1]; decide) HP.out.2.2.2.1.1 (rng_of HP.out.2.1 HP.out.2.2.2.1.2) (by have := HC4.out.room; omega) (fputL_le HFV.out) (by have := HC4.out.room; omega) (HC4.out.tt.2.2.size)); clear hB4 hM4))
       | ((with_reducible refine wpList_load_blk ?_ 91 (.tmp 10) ?_ wr.heap.size ?_ (frC f (.slice aa f.d.length cc) nilS) 91 _ HB4.out Tryz.underlying91 ?_ HSZ.out ?_); (iterate 4 exact rfl))
       | (go_at_call 53; (with_reducible refine HFIT.out.mono ?_); rintro e w5 ⟨he, v5, hFS, hM5, hn5⟩; rw [HFB.out] at he; subst he; rw [HFB.out, if_pos rfl, if_pos rfl] at hFS; have HC5 := Lib.hid (HC4.out.fit HFB.out HPOS.out hFS hM5); have HX5 := Lib.hid (HC4.out.fitX HMW4.out HDE.out HJ.out HB4.out HRW.out hM5 hn5); clear hFS hM5 hn5)
       | fail)
      refine wp_region_last (S := fun X => w5.drew = X) 11 (by kernel_rfl) rfl (fun hS => ?_)
      have HWY := Lib.hid ((Mod.refl (fun _ => False) w5).drew)
      generalize w5.drew = Y at *
      have HCY := Lib.hid (HC5.out.still HWY.out)
      have HBY := Lib.hid (HWY.out.blk HX5.out.1 (fun h => h))
      have hzy : (id : Int) ∈ s'.T.dom := by rw [HJ.out.1.dom, ← HC.out.1.dom]; exact HZD.out
      obtain ⟨w6, hr6, hc6, hm6⟩ := HCY.out.untell hzy HP.out.2.2.2.2
      have HR6 := Lib.hid hr6
      have HC6 := Lib.hid hc6
      have HM6 := Lib.hid hm6
      have cm : Y.cell? ⟨tb, 22, none⟩ = some (.map (some mb)) := HCY.out.tt.1.mapc
      have hl := HCY.out.tt.1.lookI hzy
      have c11 : Y.cell? ⟨(G id).sb, 11, none⟩ = some (.map (some (G id).tb)) := (HCY.out.tt.1.strs _ hzy).blk.cellAt 11 rfl
      have ck : Y.cell? ⟨wr.heap.size, 0, none⟩ = some (.int .i64 f.k) := HBY.out.cellAt 0 rfl
      clear hr6 hc6 hm6 hzy
      refine' tkL 0 _ (some 43) rfl rfl (by kernel_rfl) (fun _ _ _ h => h) (Or.inl ⟨by rfl, fun X hX => ?_⟩) hS ?_; rotate_left
      ·go_simp; exact rfl
      (try go_frame); refine' tkL 1 _ (some 44) rfl rfl (by kernel_rfl) (fun _ _ _ h => h) (Or.inl ⟨by rfl, fun X hX => ?_⟩) hS ?_; rotate_left
      ·go_simp; exact rfl
      (try go_frame); refine' tkL 2 _ (some 45) rfl rfl (by kernel_rfl) (fun _ _ _ h => h) (Or.inl ⟨by rfl, fun X hX => ?_⟩) hS ?_; rotate_left
      ·go_simp; exact rfl
      (try go_frame); refine' tkL 3 _ (some 46) rfl rfl (by kernel_rfl) (fun _ _ _ h => h) (Or.inl ⟨by rfl, fun X hX => ?_⟩) hS ?_; rotate_left
      ·have hX := (show Y = X from hX); subst hX; go_simp; exact rfl
      (try go_frame); refine' tkL 4 _ (some 47) rfl rfl (by kernel_rfl) (fun _ _ _ h => h) (Or.inl ⟨by rfl, fun X hX => ?_⟩) hS ?_; rotate_left
      ·go_simp; exact rfl
      (try go_frame); refine' tkL 5 _ (some 48) rfl rfl (by kernel_rfl) (fun _ _ _ h => h) (Or.inl ⟨by rfl, fun X hX => ?_⟩) hS ?_; rotate_left
      ·have hX := (show Y = X from hX); subst hX; go_simp; exact rfl
      (try go_frame); refine' tkL 6 _ (some 49) rfl rfl (by kernel_rfl) (fun _ _ _ h => h) (Or.inl ⟨by rfl, fun X hX => ?_⟩) hS ?_; rotate_left
      ·go_simp; exact rfl
      (try go_frame); refine' tkL 7 _ (some 50) rfl rfl (by kernel_rfl) (fun _ _ _ h => h) (Or.inl ⟨by rfl, fun X hX => ?_⟩) hS ?_; rotate_left
      ·go_simp; exact rfl
      (try go_frame); refine' tkL 8 _ (some 51) rfl rfl (by kernel_rfl) (fun _ _ _ h => h) (Or.inl ⟨by rfl, fun X hX => ?_⟩) hS ?_; rotate_left
      ·have hX := (show Y = X from hX); subst hX; go_simp; exact rfl
      (try go_frame); refine' tkL 9 _ (some 52) rfl rfl (by kernel_rfl) (fun _ _ _ h => h) (Or.inl ⟨by rfl, fun X hX => ?_⟩) hS ?_; rotate_left
      ·go_simp; exact rfl
      (try go_frame); refine' tkL 10 _ (some 53) rfl rfl (by kernel_rfl) (fun _ _ _ h => h) (Or.inl ⟨by rfl, fun X hX => ?_⟩) hS ?_; rotate_left
      ·have hX := (show Y = X from hX); subst hX; go_simp; exact rfl
      (try go_frame); refine wpAnyL.ready (rs := [11]) (by kernel_rfl) (by simp) ?_
      refine AllReadyL.closing (o := ⟨none, _, _, _, _, none⟩) rfl (fun K hK => ?_)
      refine step_skipr rfl (exec_iput (m := .tmp 51) (x := .tmp 53) (v := .const (.bool false)) rfl rfl rfl rfl HR6.out) ?_
      refine hK.out _ _ ?_
      clear hK K
      refine wpAnyL.done (by kernel_rfl) ?_ _
      clear cm hl c11 ck
      go_wp2_with fail
      go_roundw
      case rel =>
       refine ⟨j + 1, _, v5, by omega, by simp, Lib.hid ⟨HC6.out, ?_⟩⟩
       obtain ⟨-, hu5, hd5, he5, hv5⟩ := HX5.out
       have hge : ∀ b : Nat, rb ≤ b → ¬ b < w.heap.size := fun b hb => by rw [HRB.out]; omega
       have hDrb : rb < D := by have := HRW.out; omega
       refine ⟨(hu5.kept HWY.out (fun _ _ h => h)).kept HM6.out (fun g hg e => hge g (by have := (OwnU.lt hu5 g hg).1; omega) e), (hd5.still HWY.out).kept HM6.out (fun b h1 _ e => hge b (by omega) e), Nat.le_trans he5 (Nat.le_trans HWY.out.size HM6.out.size), hv5, ?_, rfl⟩
       rw [← HJ.out.2.2.2.2.2.1, HNX.out, HFB.out, if_pos rfl]
      case measure => simp [intOf]; omega
    ·have ej : j = m := by omega
     subst ej
     have tj : decide ((j : Int) < (j : Int)) = false := decide_eq_false (by omega)
     have e2 : R2 = s' := by
      have h := HJ.out.2.2.2.2.2.1
      rw [← HLm.out, List.drop_length] at h
      exact h.symm
     have e1 : R1 = phase1 (L.drop (i + 1)) s' := by
      have hi2 := (List.getElem?_eq_some_iff.1 HZI.out).1
      rw [← HC.out.2.2.1, List.drop_eq_getElem_cons hi2, (List.getElem?_eq_some_iff.1 HZI.out).2]
      show (if (dueStep id (dueL (s.T.m id) id) s).ret then dueStep id (dueL (s.T.m id) id) s else phase1 (L.drop (i + 1)) (dueStep id (dueL (s.T.m id) id) s)) = _
      rw [HLD.out, ← HR2.out, e2, if_neg (by rw [HJ.out.2.2.2.2.2.2]; decide)]
     have HE1 := Lib.hid e1
     clear e1 e2
     go_wp2_with fail
     go_roundw
     case rel => exact ⟨i + 1, s', vq, by omega, by simp, Lib.hid ⟨HJ.out.1, HJ.out.2.1, HE1.out.symm, HJ.out.2.2.2.2.2.2⟩⟩
     case measure => simp [intOf]; omega
  ·have ei : n = i := by omega
   subst ei
   have tl : decide ((n : Int) < (n : Int)) = false := decide_eq_false (by omega)
   have HE1 : Hid (R1 = s ∧ s.ret = false) := Lib.hid ⟨by
    have h := HC.out.2.2.1
    rw [← HLn.out, List.drop_length] at h
    exact h.symm, HC.out.2.2.2⟩
   have HF := Lib.hid HC.out.1
   have HNT : Hid (¬ rb ≤ tb) := Lib.hid (by have := (HF.out.old.lt tb (.inl rfl)).2; have := HRB.out; omega)
   clear HC HU0 HF1
   go_upto_region 14 with fail
   go_cut [79] (fun s79 wx => ∃ (b : Bool) (s2 : FO) (v2 : Value), s79 = .bool b ∧ Hid (FC B w tb mb G T rb (rb + 1) wx s2 v2 ∧ s2.ret = false ∧ Ph2 s s2 b))
   case first =>
    have c32 : wr.cell? ⟨tb, 32, none⟩ = some (.bool s.T.tell) := HF.out.tt.1.cell 10 rfl
    cases htl : s.T.tell with
    | false =>
     rw [htl] at c32
     have HTL := Lib.hid htl
     clear htl
     refine wp_region_held_drew (S := fun X => Mod (fun k => rb ≤ k) wr X) (by kernel_rfl) (Mod.refl _ _).drew (fun hS => ?_)
     refine' tk 0 _ (some 56) rfl rfl (by kernel_rfl) (fun _ _ _ h => h) (Or.inl ⟨by rfl, fun X hX => ?_⟩) hS ?_; rotate_left
     ·go_simp; exact rfl
     (try go_frame); refine' tk 1 _ (some 57) rfl rfl (by kernel_rfl) (fun _ _ _ h => h) (Or.inl ⟨by rfl, fun X hX => ?_⟩) hS ?_; rotate_left
     ·go_simp; exact rfl
     (try go_frame); refine' tk 2 _ (some 58) rfl rfl (by kernel_rfl) (fun _ _ _ h => h) (Or.inl ⟨by rfl, fun X hX => ?_⟩) hS ?_; rotate_left
     ·go_simp; exact rfl
     (try go_frame); refine' tk 3 _ (some 59) rfl rfl (by kernel_rfl) (fun _ _ _ h => h) (Or.inl ⟨by rfl, fun X hX => ?_⟩) hS ?_; rotate_left
     ·go_simp; exact rfl
     (try go_frame); refine' tk 4 _ (some 60) rfl rfl (by kernel_rfl) (fun _ _ _ h => h) (Or.inl ⟨by rfl, fun X hX => ?_⟩) hS ?_; rotate_left
     ·go_simp; exact rfl
     (try go_frame); refine' tk 5 _ (some 61) rfl rfl (by kernel_rfl) (fun _ _ _ h => h) (Or.inl ⟨by rfl, fun X hX => ?_⟩) hS ?_; rotate_left
     ·go_simp; exact rfl
     (try go_frame); refine' tk 6 _ (some 62) rfl rfl (by kernel_rfl) (fun _ _ _ h => h) (Or.inl ⟨by rfl, fun X hX => ?_⟩) hS ?_; rotate_left
     ·have h := (show Mod (fun k => rb ≤ k) wr X from hX).cellAt c32 HNT.out; go_simp; exact rfl
     (try go_frame); refine' tk 7 _ (some 63) rfl rfl (by kernel_rfl) (fun _ _ _ h => h) (Or.inl ⟨by rfl, fun X hX => ?_⟩) hS ?_; rotate_left
     ·go_simp; exact rfl
     (try go_frame); refine tk 8 undef (some 64) rfl rfl (by kernel_rfl) (fun _ _ _ h => h) (Or.inr ⟨by rfl, rfl⟩) hS ?_
     (try go_frame); refine tk 9 undef (some 65) rfl rfl (by kernel_rfl) (fun _ _ _ h => h) (Or.inr ⟨by rfl, rfl⟩) hS ?_
     (try go_frame); refine tk 10 undef (some 66) rfl rfl (by kernel_rfl) (fun _ _ _ h => h) (Or.inr ⟨by rfl, rfl⟩) hS ?_
     (try go_frame); refine tk 11 undef (some 67) rfl rfl (by kernel_rfl) (fun _ _ _ h => h) (Or.inr ⟨by rfl, rfl⟩) hS ?_
     (try go_frame); refine tk 12 undef (some 68) rfl rfl (by kernel_rfl) (fun _ _ _ h => h) (Or.inr ⟨by rfl, rfl⟩) hS ?_
     (try go_frame); refine tk 13 undef (some 69) rfl rfl (by kernel_rfl) (fun _ _ _ h => h) (Or.inr ⟨by rfl, rfl⟩) hS ?_
     (try go_frame); refine tk 14 undef (some 70) rfl rfl (by kernel_rfl) (fun _ _ _ h => h) (Or.inr ⟨by rfl, rfl⟩) hS ?_
     (try go_frame); refine tk 15 undef (some 71) rfl rfl (by kernel_rfl) (fun _ _ _ h => h) (Or.inr ⟨by rfl, rfl⟩) hS ?_
     (try go_frame); refine tk 16 undef (some 72) rfl rfl (by kernel_rfl) (fun _ _ _ h => h) (Or.inr ⟨by rfl, rfl⟩) hS ?_
     (try go_frame); refine tk 17 undef (some 73) rfl rfl (by kernel_rfl) (fun _ _ _ h => h) (Or.inr ⟨by rfl, rfl⟩) hS ?_
     (try go_frame); refine tk 18 undef (some 74) rfl rfl (by kernel_rfl) (fun _ _ _ h => h) (Or.inr ⟨by rfl, rfl⟩) hS ?_
     (try go_frame); refine tk 19 undef (some 75) rfl rfl (by kernel_rfl) (fun _ _ _ h => h) (Or.inr ⟨by rfl, rfl⟩) hS ?_
     (try go_frame); refine tk 20 undef (some 76) rfl rfl (by kernel_rfl) (fun _ _ _ h => h) (Or.inr ⟨by rfl, rfl⟩) hS ?_
     (try go_frame); refine tk 21 undef (some 77) rfl rfl (by kernel_rfl) (fun _ _ _ h => h) (Or.inr ⟨by rfl, rfl⟩) hS ?_
     (try go_frame); refine' tk 22 _ (some 78) rfl rfl (by kernel_rfl) (fun _ _ _ h => h) (Or.inl ⟨by rfl, fun X hX => ?_⟩) hS ?_; rotate_left
     ·go_simp; exact rfl
     (try go_frame); refine' tk 23 _ (some 79) rfl rfl (by kernel_rfl) (fun _ _ _ h => h) (Or.inl ⟨by rfl, fun X hX => ?_⟩) hS ?_; rotate_left
     ·go_simp; exact rfl
     (try go_frame); refine wpAnyH_done (by kernel_rfl) ?_ _
     go_wp2_with fail
     go_meet
     refine ⟨false, s, vv, rfl, Lib.hid ⟨HF.out.still (Mod.refl _ _).drew, HE1.out.2, ?_⟩⟩
     refine ⟨fun h => (by cases h), fun _ => ?_⟩
     unfold phase2
     rw [HTL.out, if_neg (by decide)]
    | true =>
     rw [htl] at c32
     have HTL := Lib.hid htl
     have hnum := HF.out.tt.1.num.2.1
     have hrd := HF.out.inv.small.read
     have c31 : wr.cell? ⟨tb, 31, none⟩ = some (.int .u64 (s.T.read : Int)) := HF.out.tt.1.cell 9 rfl
     have c2 : wr.cell? ⟨tb, 2, none⟩ = some (.int .u64 (s.T.own.d : Int)) := HF.out.tt.1.blk.cellAt 2 rfl
     have u1 : IntKind.u64.wrap ((s.T.read : Int) + (s.T.own.d : Int)) = ((s.T.read + s.T.own.d : Nat) : Int) := by
      rw [IntWalk.u64_in _ (by omega)]
      push_cast
      rfl
     have HPD := Lib.hid (HF.out.inv.data hnum)
     have HFS := Lib.hid HF.out.fss
     obtain ⟨fb, hfb⟩ : ∃ fb, fitB (dataF (s.T.read + s.T.own.d)) s.room = fb := ⟨_, rfl⟩
     have HFB := Lib.hid hfb
     have HY := Lib.hid (HF.out.still (w' := wr.drew) (Mod.refl _ _).drew)
     have HFIT := Lib.hid (dataF_fit HY.out (s.T.read + s.T.own.d))
     clear htl hnum hrd hfb
     refine wp_region_held_drew (S := fun X => Mod (fun k => rb ≤ k) wr X) (by kernel_rfl) (Mod.refl _ _).drew (fun hS => ?_)
     generalize wr.drew = Y at *
     refine' tk 0 _ (some 56) rfl rfl (by kernel_rfl) (fun _ _ _ h => h) (Or.inl ⟨by rfl, fun X hX => ?_⟩) hS ?_; rotate_left
     ·go_simp; exact rfl
     (try go_frame); refine' tk 1 _ (some 57) rfl rfl (by kernel_rfl) (fun _ _ _ h => h) (Or.inl ⟨by rfl, fun X hX => ?_⟩) hS ?_; rotate_left
     ·go_simp; exact rfl
     (try go_frame); refine' tk 2 _ (some 58) rfl rfl (by kernel_rfl) (fun _ _ _ h => h) (Or.inl ⟨by rfl, fun X hX => ?_⟩) hS ?_; rotate_left
     ·go_simp; exact rfl
     (try go_frame); refine' tk 3 _ (some 59) rfl rfl (by kernel_rfl) (fun _ _ _ h => h) (Or.inl ⟨by rfl, fun X hX => ?_⟩) hS ?_; rotate_left
     ·go_simp; exact rfl
     (try go_frame); refine' tk 4 _ (some 60) rfl rfl (by kernel_rfl) (fun _ _ _ h => h) (Or.inl ⟨by rfl, fun X hX => ?_⟩) hS ?_; rotate_left
     ·go_simp; exact rfl
     (try go_frame); refine' tk 5 _ (some 61) rfl rfl (by kernel_rfl) (fun _ _ _ h => h) (Or.inl ⟨by rfl, fun X hX => ?_⟩) hS ?_; rotate_left
     ·go_simp; exact rfl
     (try go_frame); refine' tk 6 _ (some 62) rfl rfl (by kernel_rfl) (fun _ _ _ h => h) (Or.inl ⟨by rfl, fun X hX => ?_⟩) hS ?_; rotate_left
     ·have h := (show Mod (fun k => rb ≤ k) wr X from hX).cellAt c32 HNT.out; go_simp; exact rfl
     (try go_frame); refine' tk 7 _ (some 63) rfl rfl (by kernel_rfl) (fun _ _ _ h => h) (Or.inl ⟨by rfl, fun X hX => ?_⟩) hS ?_; rotate_left
     ·go_simp; exact rfl
     (try go_frame); refine' tk 8 _ (some 64) rfl rfl (by kernel_rfl) (fun _ _ _ h => h) (Or.inl ⟨by rfl, fun X hX => ?_⟩) hS ?_; rotate_left
     ·go_simp; exact rfl
     (try go_frame); refine' tk 9 _ (some 65) rfl rfl (by kernel_rfl) (fun _ _ _ h => h) (Or.inl ⟨by rfl, fun X hX => ?_⟩) hS ?_; rotate_left
     ·go_simp; exact rfl
     (try go_frame); refine' tk 10 _ (some 66) rfl rfl (by kernel_rfl) (fun _ _ _ h => h) (Or.inl ⟨by rfl, fun X hX => ?_⟩) hS ?_; rotate_left
     ·go_simp; exact rfl
     (try go_frame); refine' tk 11 _ (some 67) rfl rfl (by kernel_rfl) (fun _ _ _ h => h) (Or.inl ⟨by rfl, fun X hX => ?_⟩) hS ?_; rotate_left
     ·go_simp; exact rfl
     (try go_frame); refine' tk 12 _ (some 68) rfl rfl (by kernel_rfl) (fun _ _ _ h => h) (Or.inl ⟨by rfl, fun X hX => ?_⟩) hS ?_; rotate_left
     ·have h := (show Mod (fun k => rb ≤ k) wr X from hX).cellAt c31 HNT.out; go_simp; exact rfl
     (try go_frame); refine' tk 13 _ (some 69) rfl rfl (by kernel_rfl) (fun _ _ _ h => h) (Or.inl ⟨by rfl, fun X hX => ?_⟩) hS ?_; rotate_left
     ·go_simp; exact rfl
     (try go_frame); refine' tk 14 _ (some 70) rfl rfl (by kernel_rfl) (fun _ _ _ h => h) (Or.inl ⟨by rfl, fun X hX => ?_⟩) hS ?_; rotate_left
     ·go_simp; exact rfl
     (try go_frame); refine' tk 15 _ (some 71) rfl rfl (by kernel_rfl) (fun _ _ _ h => h) (Or.inl ⟨by rfl, fun X hX => ?_⟩) hS ?_; rotate_left
     ·go_simp; exact rfl
     (try go_frame); refine' tk 16 _ (some 72) rfl rfl (by kernel_rfl) (fun _ _ _ h => h) (Or.inl ⟨by rfl, fun X hX => ?_⟩) hS ?_; rotate_left
     ·go_simp; exact rfl
     (try go_frame); refine' tk 17 _ (some 73) rfl rfl (by kernel_rfl) (fun _ _ _ h => h) (Or.inl ⟨by rfl, fun X hX => ?_⟩) hS ?_; rotate_left
     ·have h := (show Mod (fun k => rb ≤ k) wr X from hX).cellAt c2 HNT.out; go_simp; exact rfl
     (try go_frame); refine tk 18 (.int .u64 ((s.T.read + s.T.own.d : Nat) : Int)) (some 74) rfl rfl (by kernel_rfl) (fun _ _ _ h => h) (Or.inl ⟨by rfl, fun X hX => ?_⟩) hS ?_
     ·go_simp
     (try go_frame); refine tk 19 (.agg (frC (dataF (s.T.read + s.T.own.d)) nilS nilS)) (some 75) rfl rfl (by kernel_rfl) (fun _ _ _ h => h) (Or.inl ⟨by rfl, fun X hX => ?_⟩) hS ?_
     ·exact exec_bu (pl := [(0, .const (.int .i64 16)), (2, .tmp 74)]) rfl [(0, .int .i64 16), (2, .int .u64 ((s.T.read + s.T.own.d : Nat) : Int))] rfl _ (built_data _)
     (try go_frame); refine wpAnyH_ready (rs := [20]) (by kernel_rfl) (by simp) ?_
     refine arH (o := ⟨some 76, _, _, _, _, some (7, true)⟩) rfl fun K hK => ?_
     go_simp
     refine HFIT.out.mono ?_
     rintro e w5 ⟨he, v5, hFS5, hM5, hn5⟩
     rw [HFB.out] at he
     subst he
     have HFS5 := Lib.hid hFS5
     have HM5 := Lib.hid hM5
     refine hK.out _ _ (Mod.trans hS (hM5.mono (fun k _ e => by have := HFS.out k e; have := HRB.out; omega))) (fun hS => ?_)
     clear hK K hFS5 hM5 hn5
     refine' tk 21 _ (some 77) rfl rfl (by kernel_rfl) (fun _ _ _ h => h) (Or.inl ⟨by rfl, fun X hX => ?_⟩) hS ?_; rotate_left
     ·go_simp; exact rfl
     (try go_frame); refine' tk 22 _ (some 78) rfl rfl (by kernel_rfl) (fun _ _ _ h => h) (Or.inl ⟨by rfl, fun X hX => ?_⟩) hS ?_; rotate_left
     ·go_simp; exact rfl
     (try go_frame); refine' tk 23 _ (some 79) rfl rfl (by kernel_rfl) (fun _ _ _ h => h) (Or.inl ⟨by rfl, fun X hX => ?_⟩) hS ?_; rotate_left
     ·go_simp; exact rfl
     (try go_frame); refine wpAnyH_done (by kernel_rfl) ?_ _
     go_wp2_with fail
     go_meet
     cases fb with
     | false =>
      refine ⟨true, s, v5, rfl, Lib.hid ⟨HY.out.keep (by have h := HFS5.out; rw [HFB.out, if_neg (by decide), if_neg (by decide)] at h; exact h) HM5.out, HE1.out.2, ?_⟩⟩
      refine ⟨fun _ => ?_, fun h => (by cases h)⟩
      unfold phase2
      rw [HTL.out, if_pos rfl, HFB.out, if_neg (by decide)]
     | true =>
      refine ⟨false, _, v5, rfl, Lib.hid ⟨HY.out.fit HFB.out HPD.out (by have h := HFS5.out; rw [HFB.out, if_pos rfl, if_pos rfl] at h; exact h) HM5.out, rfl, ?_⟩⟩
      refine ⟨fun h => (by cases h), fun _ => ?_⟩
      unfold phase2
      rw [HTL.out, if_pos rfl, HFB.out, if_pos rfl]
   case rest =>
    obtain ⟨b, s2, v2, rfl, HK⟩ := hcut
    have co : wc.cell? ⟨rb + 1, 0, none⟩ = some v2 := HK.out.1.fs.o.cellAt 0 rfl
    have HF0 := Lib.hid (fun s3 (h : phase2 s = s3) => framesO_two (room := room) HL.out (HR1.out.symm.trans HE1.out.1) HE1.out.2 h)
    cases b with
    | true =>
     go_wp2_with fail
     have ef := HF0.out _ (HK.out.2.2.1 rfl)
     rw [if_pos rfl] at ef
     refine bodyPost_ret (results_tmp rfl _ _ _) rfl ?_
     unfold FramesR
     rw [ef]
     exact ⟨_, rfl, HK.out.1.fs.own, HK.out.1.tt, HK.out.1.sub, HK.out.1.inv, HK.out.1.dom, by have := HK.out.1.room; (try dsimp only at this ⊢); omega⟩
    | false =>
     have c32 : wc.cell? ⟨tb, 32, none⟩ = some (.bool s2.T.tell) := HK.out.1.tt.1.cell 10 rfl
     have f32 : wc.frozen? ⟨tb, 32, none⟩ = false := HK.out.1.tt.1.blk.free 32
     have HT3 : TT B wc (wc.setCell ⟨tb, 32, none⟩ (.bool false)) tb mb G G s2.T { s2.T with tell := false } := HK.out.1.tt.1.setTT { s2.T with tell := false } 10 (.bool false) rfl rfl rfl rfl rfl HK.out.1.tt.1.num
     have hf3 := HK.out.1.table HT3 (HK.out.1.inv.tell false) rfl (fun k hk => hk)
     have ef := HF0.out _ (HK.out.2.2.2 rfl)
     obtain ⟨s3, hs3⟩ : ∃ s3 : FO, s3 = { s2 with T := { s2.T with tell := false } } := ⟨_, rfl⟩
     rw [← hs3] at hf3 ef
     have h3r : s3.ret = false := by rw [hs3]; exact HK.out.2.1
     rw [h3r, if_neg (by decide)] at ef
     have HEF := Lib.hid ef
     have H3R := Lib.hid h3r
     have HF3 := Lib.hid hf3
     have HID2 := Lib.hid (by
      have h := ids_any hf3.tt.1 hf3.inv.len
      rw [hf3.dom, HL.out] at h
      exact h)
     clear HT3 hf3 ef hs3 h3r HF0
     go_wp2_with (first
      | (go_at_call 37; (with_reducible refine HID2.out.mono ?_); rintro e w7 ⟨v7, rfl, hv7, hm7⟩; obtain ⟨a7, c7, hvv⟩ := hv7.val; rw [HLn.out] at hvv; subst hvv; have HV7 := Lib.hid hv7; have HM7 := Lib.hid hm7; clear hv7 hm7)
      | fail)
     obtain ⟨W0, hW0⟩ : ∃ W0, W0 = (wc.setCell ⟨tb, 32, none⟩ (.bool false)).heap.size := ⟨_, rfl⟩
     have HV8 : Hid (OwnU w7 W0 (.slice a7 n c7) L) := Lib.hid (by rw [hW0]; exact HV7.out)
     have HW0 : Hid (rb ≤ W0) := Lib.hid (by rw [hW0]; have := HF3.out.tt.2.2.size; have := HRB.out; omega)
     have HF7 := Lib.hid (HF3.out.still HM7.out)
     obtain ⟨R3, hR3⟩ : ∃ R3, R3 = phase3 L s3 := ⟨_, rfl⟩
     have HR3 := Lib.hid hR3
     rw [← hR3] at HEF
     clear hR3 hW0 HV7 HF3 HM7 HID2 c32 f32 co HK
     go_loopw [87] (fun s87 wq => ∃ (i : Nat) (s : FO) (vv : Value), i ≤ n ∧ s87 = .int .i64 i ∧ Hid (FC B w tb mb G T rb (rb + 1) wq s vv ∧ OwnU wq W0 (.slice a7 n c7) L ∧ phase3 (L.drop i) s = R3 ∧ s.ret = false)) (fun s87 _ => n - (intOf s87).toNat)
     case atStart => exact ⟨0, s3, v2, Nat.zero_le _, rfl, Lib.hid ⟨HF7.out, HV8.out, HR3.out.symm, H3R.out⟩⟩
     case round =>
      obtain ⟨i, s, vv, hin, rfl, HC⟩ := hrel
      by_cases hlt : i < n
      ·obtain ⟨z, hz⟩ : ∃ z, L[i]? = some z := ⟨_, List.getElem?_eq_getElem (by rw [HLn.out]; exact hlt)⟩
       obtain ⟨g, rfl, cg⟩ := HC.out.2.1.at hz
       have hzd : z ∈ s.T.dom := by rw [HC.out.1.dom, ← sortI_mem, HL.out]; exact List.mem_of_getElem? hz
       have cm := HC.out.1.tt.1.mapc
       have hl := HC.out.1.tt.1.lookI hzd
       obtain ⟨id, rfl⟩ := Int.eq_ofNat_of_zero_le (HC.out.1.inv.ids z hzd).1
       have HZD : Hid ((id : Int) ∈ T.dom) := Lib.hid (by rw [← HC.out.1.dom]; exact hzd)
       obtain ⟨R4, hR4⟩ : ∃ R4, R4 = pump id (s.room.toNat + 1) s := ⟨_, rfl⟩
       have HS3 := Lib.hid (phase3_step hz HC.out.2.2.1 hR4.symm)
       have HR4 := Lib.hid hR4
       have tl3 : decide ((i : Int) < (n : Int)) = true := decide_eq_true (by omega)
       have tl4 : decide (i < n) = true := decide_eq_true hlt
       have HIN : Hid (i < n) := Lib.hid hlt
       clear hz hzd hR4 hlt
       go_wp2_with fail
       clear cg cm hl
       go_loopw [14] (fun s14 wq => ∃ (x : Value) (k : Nat) (s' : FO) (v' : Value), s14 = x ∧ Hid (FC B w tb mb G T rb (rb + 1) wq s' v' ∧ OwnU wq W0 (.slice (some ⟨g, 0, none⟩) n c7) L ∧ s'.ret = false ∧ s'.room.toNat < k ∧ pump id k s' = R4)) (fun _ wq => roomW wq rb)
       case atStart => exact ⟨_, s.room.toNat + 1, s, vv, rfl, Lib.hid ⟨HC.out.1, HC.out.2.1, HC.out.2.2.2, Nat.lt_succ_self _, HR4.out.symm⟩⟩
       case round =>
        obtain ⟨x, k, s', v', rfl, HJ⟩ := hrel
        have hzd : (id : Int) ∈ s'.T.dom := by rw [HJ.out.1.dom]; exact HZD.out
        have hsq := HJ.out.1.tt.1.strs _ hzd
        have k0 : wr.cell? ⟨(G id).sb, 0, none⟩ = some (ptrO (G id).ob (s'.T.m id).out) := hsq.blk.cellAt 0 rfl
        have k4 : wr.cell? ⟨(G id).sb, 4, none⟩ = some (.bool (s'.T.m id).reset) := hsq.blk.cellAt 4 rfl
        obtain ⟨kk, rfl⟩ : ∃ kk, k = kk + 1 := ⟨k - 1, by have := HJ.out.2.2.2.1; omega⟩
        cases ho : (s'.T.m id).out with
        | none =>
         rw [ho] at k0
         unfold ptrO at k0
         have HE4 : Hid (R4 = s') := Lib.hid (by rw [← HJ.out.2.2.2.2]; exact pump_none ho)
         clear ho hsq hzd k4
         go_wp2_with fail
         go_roundw
         case rel => exact ⟨i + 1, s', v', by have := HIN.out; omega, by simp, Lib.hid ⟨HJ.out.1, HJ.out.2.1, by have h := HS3.out.1; rw [HE4.out] at h; exact h HJ.out.2.2.1, HJ.out.2.2.1⟩⟩
         case measure => have := HIN.out; simp [intOf]; omega
        | some o =>
         rw [ho] at k0
         unfold ptrO at k0
         cases hrs : (s'.T.m id).reset with
         | true =>
          rw [hrs] at k4
          have HE4 : Hid (R4 = s') := Lib.hid (by rw [← HJ.out.2.2.2.2]; exact pump_reset ho hrs)
          clear ho hsq hzd hrs
          go_wp2_with fail
          go_roundw
          case rel => exact ⟨i + 1, s', v', by have := HIN.out; omega, by simp, Lib.hid ⟨HJ.out.1, HJ.out.2.1, by have h := HS3.out.1; rw [HE4.out] at h; exact h HJ.out.2.2.1, HJ.out.2.2.1⟩⟩
          case measure => have := HIN.out; simp [intOf]; omega
         | false =>
          rw [hrs] at k4
          have cr : wr.cell? ⟨rb, 0, none⟩ = some (.int .i64 s'.room) := HJ.out.1.fs.r.cellAt 0 rfl
          have hrm := HJ.out.1.room
          have u1 : IntKind.i64.wrap (s'.room - 20) = s'.room - 20 := IntWalk.i64_in _ (by omega)
          by_cases h21 : s'.room < 21
          ·have co : wr.cell? ⟨rb + 1, 0, none⟩ = some v' := HJ.out.1.fs.o.cellAt 0 rfl
           have HE4 : Hid (R4 = { s' with ret := true }) := Lib.hid (by rw [← HJ.out.2.2.2.2]; exact pump_full ho hrs h21)
           have mm : min (s'.room - 20) 200 = s'.room - 20 := by omega
           have t1 : decide (s'.room - 20 < 1) = true := decide_eq_true (by omega)
           clear ho hsq hzd hrs h21 hrm
           go_wp2_with fail
           refine bodyPost_ret (results_tmp rfl _ _ _) rfl ?_
           have ef := HEF.out
           have hs := HS3.out.2
           rw [HE4.out] at hs
           rw [hs rfl] at ef
           unfold FramesR
           rw [ef]
           exact ⟨_, rfl, HJ.out.1.fs.own, HJ.out.1.tt, HJ.out.1.sub, HJ.out.1.inv, HJ.out.1.dom, by have := HJ.out.1.room; (try dsimp only at this ⊢); omega⟩
          ·obtain ⟨many, hmany⟩ : ∃ many : Nat, min (s'.room.toNat - 20) 200 = many := ⟨_, rfl⟩
           have mm : min (s'.room - 20) 200 = (many : Int) := by omega
           have t1 : decide ((many : Int) < 1) = false := decide_eq_false (by omega)
           have HNX := Lib.hid (next_any HJ.out.1.tt.1 hzd ho HJ.out.1.inv.small many (by omega) (by omega))
           have HIV := Lib.hid (HJ.out.1.inv.next hzd ho many)
           have HSU := Lib.hid (TS_next tb mb G s'.T ho many)
           have HFL := Lib.hid (HJ.out.1.inv.nextF hzd ho (many := many) (by omega))
           have HH := Lib.hid (And.intro ho (And.intro hrs (And.intro h21 hmany)))
           have HR16 : Hid ((nextF' s'.T id o many).rs = [] ∧ (nextF' s'.T id o many).t.length = 16 ∧ (nextF' s'.T id o many).k = 8 ∧ ((nextF' s'.T id o many).d.length : Int) ≤ 1000) := Lib.hid ⟨rfl, rfl, rfl, by have := nextB_len (nextO1 s'.T (s'.T.m id) o many) many; show ((nextB (nextO1 s'.T (s'.T.m id) o many) many).length : Int) ≤ 1000; omega⟩
           have HMN : Hid ((19 + many : Int) < s'.room) := Lib.hid (by omega)
           have HCR : Hid (roomW wr rb = s'.room.toNat) := Lib.hid (roomW_eq cr)
           cases hok : (dueO (nextO1 s'.T (s'.T.m id) o many) many).ok with
           | false =>
            have HOK := Lib.hid hok
            clear ho hsq hzd hrs h21 hrm hmany hok
            go_wp2_with (first
             | (go_at_call 56; (with_reducible refine HNX.out.mono ?_); rintro e w5 ⟨vd, he, hvd, htt⟩; rw [HOK.out] at he; subst he; obtain ⟨da, dc, rfl, -⟩ := Sl.val hvd.byts; have HVD := Lib.hid hvd; have HC5 := Lib.hid (HJ.out.1.table htt HIV.out rfl HSU.out); have HU5 := Lib.hid (HJ.out.2.1.kept htt.2.2 (fun g hg e => by have h1 := (OwnU.lt HJ.out.2.1 g hg).1; have h2 := HJ.out.1.lt g e; have h3 := HRB.out; have h4 := HW0.out; omega)); have HSZW : Hid (w.heap.size ≤ wr.heap.size) := Lib.hid HJ.out.1.tt.2.2.size; clear hvd htt)
             | ((with_reducible refine wpList_store_blk ?_ 91 (.tmp 15) (.tmp 121) ?_ w5.heap.size ?_ frZx (frC (nextF' s'.T id o many) (.slice da (nextF' s'.T id o many).d.length dc) nilS) ?_ 91 (Blk.new _ _ _) (sizeFrR _ _ _ HR16.out.2.1) (frC_size _ _ _ HR16.out.2.1).symm (frC_one1 _ _ _ _) ?_); (iterate 4 exact rfl); intro w9 hB9 hM9; go_loud (have HB9 := Lib.hid hB9; have HMW9 : Hid (Mod (fun _ => False) w5 w9) := Lib.hid (((Mod.refl (fun _ => False) w5).alloc _).trans' hM9 (fun k hk e => by omega)); have HX := Lib.hid (And.intro (HC5.out.still HMW9.out) (And.intro (HU5.out.kept HMW9.out (fun _ _ h => h)) trivial)); have HVD9 := Lib.hid ((HVD.out.keptM HMW9.out (fun _ _ h => h)).base HSZW.out); have HFIT := Lib.hid (HX.out.1.fitAny (f := nextF' s'.T id o many) ⟨_, rfl, HVD9.out, fun g hg => (HVD9.out.lt g hg).2, HR16.out.1, HR16.out.2.1⟩ (strm_frv HVD9.out HR16.out.1 HR16.out.2.1 (by have := HR16.out.2.2.2; omega)) HR16.out.1 (by rw [HR16.out.2.2.1]; exact ⟨okKey_small (by decide) (by decide), .inr (.inl rfl)⟩)); clear hB9 hM9))
             | fail)
            have HE4 : Hid (R4 = { s' with T := nextT s'.T id o many }) := Lib.hid (by rw [← HJ.out.2.2.2.2]; exact pump_stop HH.out.1 HH.out.2.1 (Int.not_lt.2 HH.out.2.2.1) HH.out.2.2.2 HOK.out)
            go_roundw
            case rel => exact ⟨i + 1, _, v', by have := HIN.out; omega, by simp, Lib.hid ⟨HX.out.1, HX.out.2.1, by have h := HS3.out.1; rw [HE4.out] at h; exact h HJ.out.2.2.1, HJ.out.2.2.1⟩⟩
            case measure => have := HIN.out; simp [intOf]; omega
           | true =>
            have HOK := Lib.hid hok
            clear ho hsq hzd hrs h21 hrm hmany hok
            go_wp2_with (first
             | (go_at_call 56; (with_reducible refine HNX.out.mono ?_); rintro e w5 ⟨vd, he, hvd, htt⟩; rw [HOK.out] at he; subst he; obtain ⟨da, dc, rfl, -⟩ := Sl.val hvd.byts; have HVD := Lib.hid hvd; have HC5 := Lib.hid (HJ.out.1.table htt HIV.out rfl HSU.out); have HU5 := Lib.hid (HJ.out.2.1.kept htt.2.2 (fun g hg e => by have h1 := (OwnU.lt HJ.out.2.1 g hg).1; have h2 := HJ.out.1.lt g e; have h3 := HRB.out; have h4 := HW0.out; omega)); have HSZW : Hid (w.heap.size ≤ wr.heap.size) := Lib.hid HJ.out.1.tt.2.2.size; clear hvd htt)
             | ((with_reducible refine wpList_store_blk ?_ 91 (.tmp 15) (.tmp 121) ?_ w5.heap.size ?_ frZx (frC (nextF' s'.T id o many) (.slice da (nextF' s'.T id o many).d.length dc) nilS) ?_ 91 (Blk.new _ _ _) (sizeFrR _ _ _ HR16.out.2.1) (frC_size _ _ _ HR16.out.2.1).symm (frC_one1 _ _ _ _) ?_); (iterate 4 exact rfl); intro w9 hB9 hM9; go_loud (have HB9 := Lib.hid hB9; have HMW9 : Hid (Mod (fun _ => False) w5 w9) := Lib.hid (((Mod.refl (fun _ => False) w5).alloc _).trans' hM9 (fun k hk e => by omega)); have HX := Lib.hid (And.intro (HC5.out.still HMW9.out) (And.intro (HU5.out.kept HMW9.out (fun _ _ h => h)) trivial)); have HVD9 := Lib.hid ((HVD.out.keptM HMW9.out (fun _ _ h => h)).base HSZW.out); have HFIT := Lib.hid (HX.out.1.fitAny (f := nextF' s'.T id o many) ⟨_, rfl, HVD9.out, fun g hg => (HVD9.out.lt g hg).2, HR16.out.1, HR16.out.2.1⟩ (strm_frv HVD9.out HR16.out.1 HR16.out.2.1 (by have := HR16.out.2.2.2; omega)) HR16.out.1 (by rw [HR16.out.2.2.1]; exact ⟨okKey_small (by decide) (by decide), .inr (.inl rfl)⟩)); clear hB9 hM9))
             | ((with_reducible refine wpList_load_blk ?_ 91 (.tmp 15) ?_ w5.heap.size ?_ (frC (nextF' s'.T id o many) (.slice da (nextF' s'.T id o many).d.length dc) nilS) 91 _ HB9.out Tryz.underlying91 ?_ (sizeFrR _ _ _ HR16.out.2.1) ?_); (iterate 4 exact rfl))
             | (go_at_call 53; (with_reducible refine HFIT.out.mono ?_); rintro e w6 ⟨he, v6, hFS6, hM6, hn6⟩; subst he; have HFS6 := Lib.hid hFS6; have HM6 := Lib.hid hM6; have HN6 := Lib.hid hn6; clear hFS6 hM6 hn6)
             | fail)
            have hft : fitB (nextF' s'.T id o many) s'.room = true := decide_eq_true (by have := HFL.out.2; have := HMN.out; omega)
            have hc6 := HX.out.1.fit (f := nextF' s'.T id o many) hft HFL.out.1 (by have h := HFS6.out; rw [hft, if_pos rfl, if_pos rfl] at h; exact h) HM6.out
            have hu6 := HX.out.2.1.fit HX.out.1.fs HM6.out
            have hp6 : pump id kk ⟨nextT s'.T id o many, s'.room - (fputL (nextF' s'.T id o many)).length, s'.l ++ [nextF' s'.T id o many], false⟩ = R4 := by
             rw [← HJ.out.2.2.2.2]
             exact (pump_go HH.out.1 HH.out.2.1 (Int.not_lt.2 HH.out.2.2.1) HH.out.2.2.2 HOK.out).symm
            have hr6 : roomW w6 rb = (s'.room - (fputL (nextF' s'.T id o many)).length).toNat := roomW_eq (hc6.fs.r.cellAt 0 rfl)
            go_roundw
            case rel =>
             have hk6 : (s'.room - ((fputL (nextF' s'.T id o many)).length : Int)).toNat < kk := by have := HJ.out.2.2.2.1; have := HFL.out.1; have := HMN.out; omega
             exact ⟨_, kk, _, v6, rfl, Lib.hid ⟨hc6, hu6, rfl, hk6, hp6⟩⟩
            case measure =>
             have := HFL.out.1
             have := HMN.out
             have := HCR.out
             omega
      ·have ei : n = i := by omega
       subst ei
       have tl3 : decide ((n : Int) < (n : Int)) = false := decide_eq_false (by omega)
       have e3 : R3 = s := by
        have h := HC.out.2.2.1
        rw [← HLn.out, List.drop_length] at h
        exact h.symm
       have HE3 := Lib.hid e3
       clear e3
       have co : wr.cell? ⟨rb + 1, 0, none⟩ = some vv := HC.out.1.fs.o.cellAt 0 rfl
       go_wp2_with fail
       refine bodyPost_ret (results_tmp rfl _ _ _) rfl ?_
       unfold FramesR
       rw [HEF.out, HE3.out]
       exact ⟨_, rfl, HC.out.1.fs.own, HC.out.1.tt, HC.out.1.sub, HC.out.1.inv, HC.out.1.dom, by have := HC.out.1.room; (try dsimp only at this ⊢); omega⟩
theorem sortI_of {l m : List Int} (hp : l.Perm m) (hs : m.Pairwise (fun x y => (decide (x ≤ y)) = true)) : sortI l = m := by
 rw [sortI_perm hp]
 exact List.mergeSort_of_pairwise hs
def framesL (L : List Int) (T : Tb) (room : Int) : FO :=
 let s1 := phase1 L ⟨T, room, [], false⟩
 if s1.ret then s1 else
 let s2 := phase2 s1
 if s2.ret then s2 else phase3 L s2
theorem framesO_L {T : Tb} {L : List Int} (h : sortI T.dom = L) (room : Int) : framesO T room = framesL L T room := by
 unfold framesO framesL
 rw [h]
def hello : List UInt8 := [104, 101, 108, 108, 111]
def hF : Fr := streamF 0 0 hello false
def finvS (s : St) : Bool := decide (topS s ≤ 1000000) && decide (s.given ≤ 1000000) && !s.tS && (!s.tR || s.out.isSome) && (!s.tM || s.over || s.inn.isSome) && decide (s.code ≤ topN) && (s.inn.all fun o => decide (o.read + o.win ≤ topN)) && (s.out.all fun o => decide (o.s.length ≤ 2000) && decide (o.b.length ≤ 2000))
def finvB (T : Tb) : Bool := decide (T.dom.length ≤ lenMax) && decide (T.read ≤ 2000000000) && (T.dom.all fun z => decide (0 ≤ z) && decide (z ≤ 1000000) && finvS (T.m z))
theorem finv_of {T : Tb} (h : finvB T = true) : FInv T := by
 unfold finvB at h
 simp only [Bool.and_eq_true, decide_eq_true_eq, List.all_eq_true] at h
 obtain ⟨⟨h1, h2⟩, h3⟩ := h
 have h4 : ∀ z ∈ T.dom, finvS (T.m z) = true := fun z hz => (h3 z hz).2
 have h5 : ∀ s, finvS s = true → topS s ≤ 1000000 ∧ s.given ≤ 1000000 ∧ s.tS = false ∧ (s.tR = true → ∃ o, s.out = some o) ∧ (s.tM = true → s.over = false → ∃ o, s.inn = some o) ∧ s.code ≤ topN ∧ (∀ o, s.inn = some o → o.read + o.win ≤ topN) ∧ (∀ o, s.out = some o → o.s.length ≤ 2000 ∧ o.b.length ≤ 2000) := by
  intro s hs
  unfold finvS at hs
  simp only [Bool.and_eq_true, Bool.or_eq_true, Bool.not_eq_true', decide_eq_true_eq] at hs
  obtain ⟨⟨⟨⟨⟨⟨⟨a1, a2⟩, a3⟩, a4⟩, a5⟩, a6⟩, a7⟩, a8⟩ := hs
  refine ⟨a1, a2, a3, fun ht => ?_, fun ht ho => ?_, a6, fun o ho => ?_, fun o ho => ?_⟩
  ·rcases a4 with e | e
   ·rw [ht] at e; cases e
   ·exact Option.isSome_iff_exists.1 e
  ·rcases a5 with (e | e) | e
   ·rw [ht] at e; cases e
   ·rw [ho] at e; cases e
   ·exact Option.isSome_iff_exists.1 e
  ·rw [ho] at a7
   simpa using a7
  ·rw [ho] at a8
   simpa using a8
 have hl : lenMax ≤ 1000 := by decide
 exact ⟨⟨Nat.le_trans h1 hl, fun z hz => (h5 _ (h4 z hz)).1, fun z hz => (h5 _ (h4 z hz)).2.1, h2⟩, h1, fun z hz => (h3 z hz).1, fun z hz => (h5 _ (h4 z hz)).2.2.1, fun z hz => (h5 _ (h4 z hz)).2.2.2.1, fun z hz => (h5 _ (h4 z hz)).2.2.2.2.1, fun z hz => (h5 _ (h4 z hz)).2.2.2.2.2.1, fun z hz => (h5 _ (h4 z hz)).2.2.2.2.2.2.1, fun z hz => (h5 _ (h4 z hz)).2.2.2.2.2.2.2⟩
end Go.Proofs.YtahgidkpjmecdaaGreatDoor
set_option maxRecDepth 100000
namespace Go.Proofs.YtahgidkpjmecdaaGreatDoor
open Go.RowKit
structure Th where
 P : World → Prop
 R : Nat → Prop
 firm : ∀ S w w', P w → Mod S w w' → (∀ k, R k → ¬ S k) → P w'
def Fits (B : Nat) (w : World) (o : Th) : Prop := o.P w ∧ ∀ k, o.R k → B ≤ k ∧ k < w.heap.size
def Apart (o p : Th) : Prop := ∀ k, o.R k → ¬ p.R k
def Side (B : Nat) (w : World) : List Th → Prop
 | [] => True
 | o :: l => Fits B w o ∧ (∀ p ∈ l, Apart o p) ∧ Side B w l
theorem Side.mem {B : Nat} {w : World} : ∀ {l : List Th}, Side B w l → ∀ o ∈ l, Fits B w o
 | [], _, _, h => by cases h
 | p :: l, hs, o, h => by
  rcases List.mem_cons.1 h with rfl | h
  ·exact hs.1
  ·exact Side.mem hs.2.2 o h
theorem Side.kept {S : Nat → Prop} {B : Nat} {w w' : World} (hM : Mod S w w') : ∀ {l : List Th}, Side B w l → (∀ o ∈ l, ∀ k, o.R k → ¬ S k) → Side B w' l
 | [], _, _ => trivial
 | p :: _, hs, h => ⟨⟨p.firm _ _ _ hs.1.1 hM (h p (List.mem_cons_self)), fun k hk => ⟨(hs.1.2 k hk).1, Nat.lt_of_lt_of_le (hs.1.2 k hk).2 hM.size⟩⟩, hs.2.1, Side.kept hM hs.2.2 (fun o ho => h o (List.mem_cons_of_mem _ ho))⟩
theorem Side.still {B : Nat} {w w' : World} {l : List Th} (h : Side B w l) (hM : Mod (fun _ => False) w w') : Side B w' l := h.kept hM (fun _ _ _ _ h => h)
theorem Side.first {B : Nat} {w w' : World} {o o' : Th} {l : List Th} (h : Side B w (o :: l)) (hB : B ≤ w.heap.size) (hP : o'.P w') (hR : ∀ k, o'.R k → o.R k ∨ (w.heap.size ≤ k ∧ k < w'.heap.size)) (hM : Mod o.R w w') : Side B w' (o' :: l) := by
 refine ⟨⟨hP, fun k hk => ?_⟩, fun p hp k hk hk2 => ?_, h.2.2.kept hM (fun p hp k hk hk2 => h.2.1 p hp k hk2 hk)⟩
 ·rcases hR k hk with e | e
  ·exact ⟨(h.1.2 k e).1, Nat.lt_of_lt_of_le (h.1.2 k e).2 hM.size⟩
  ·exact ⟨Nat.le_trans hB e.1, e.2⟩
 ·rcases hR k hk with e | e
  ·exact h.2.1 p hp k e hk2
  ·have := (((h.2.2.mem p hp).2 k hk2).2); omega
theorem Apart.symm {o p : Th} (h : Apart o p) : Apart p o := fun k hk hk2 => h k hk2 hk
theorem mem_mid {q o : Th} {l m : List Th} : q ∈ l ++ o :: m ↔ q = o ∨ q ∈ l ++ m := by
 simp only [List.mem_cons, List.mem_append]
 constructor
 ·rintro (e | e | e)
  ·exact .inr (.inl e)
  ·exact .inl e
  ·exact .inr (.inr e)
 ·rintro (e | e | e)
  ·exact .inr (.inl e)
  ·exact .inl e
  ·exact .inr (.inr e)
theorem Side.swap {B : Nat} {w : World} {o p : Th} {l : List Th} (h : Side B w (o :: p :: l)) : Side B w (p :: o :: l) :=
 ⟨h.2.2.1, fun q hq => by
  rcases List.mem_cons.1 hq with rfl | hq
  ·exact (h.2.1 p List.mem_cons_self).symm
  ·exact h.2.2.2.1 q hq, h.1, fun q hq => h.2.1 q (List.mem_cons_of_mem _ hq), h.2.2.2.2⟩
theorem Side.tail {B : Nat} {w : World} {o : Th} {l : List Th} (h : Side B w (o :: l)) : Side B w l := h.2.2
theorem Side.front {B : Nat} {w : World} {o : Th} {m : List Th} : ∀ {l : List Th}, Side B w (l ++ o :: m) → Side B w (o :: (l ++ m))
 | [], h => h
 | p :: l, h => by
  have h1 : Side B w (o :: (l ++ m)) := Side.front h.2.2
  have h2 : Side B w (p :: o :: (l ++ m)) := ⟨h.1, fun q hq => h.2.1 q (mem_mid.2 (List.mem_cons.1 hq)), h1⟩
  exact h2.swap
theorem Side.back {B : Nat} {w : World} {o : Th} {m : List Th} : ∀ {l : List Th}, Side B w (o :: (l ++ m)) → Side B w (l ++ o :: m)
 | [], h => h
 | p :: l, h => by
  have h2 : Side B w (p :: o :: (l ++ m)) := Side.swap h
  refine ⟨h2.1, fun q hq => h2.2.1 q (List.mem_cons.2 (mem_mid.1 hq)), Side.back h2.2.2⟩
theorem Side.turn {B : Nat} {w w' : World} (l : List Th) {o o' : Th} {m : List Th} (h : Side B w (l ++ o :: m)) (hB : B ≤ w.heap.size) (hP : o'.P w') (hR : ∀ k, o'.R k → o.R k ∨ (w.heap.size ≤ k ∧ k < w'.heap.size)) (hM : Mod o.R w w') : Side B w' (l ++ o' :: m) :=
 Side.back (Side.first (Side.front h) hB hP hR hM)
theorem Side.push {B : Nat} {w w' : World} {l : List Th} (h : Side B w' l) (o : Th) (hB : B ≤ w.heap.size) (hP : o.P w') (hR : ∀ k, o.R k → w.heap.size ≤ k ∧ k < w'.heap.size) (hl : ∀ p ∈ l, ∀ k, p.R k → ¬ o.R k) : Side B w' (o :: l) :=
 ⟨⟨hP, fun k hk => ⟨Nat.le_trans hB (hR k hk).1, (hR k hk).2⟩⟩, fun p hp k hk hk2 => hl p hp k hk2 hk, h⟩
theorem Side.turnNew {B : Nat} {w w' : World} (l : List Th) {o o' : Th} {m : List Th} (h : Side B w (l ++ o :: m)) (hB : B ≤ w.heap.size) (hP : o'.P w') (hR : ∀ k, o'.R k → o.R k) (hM : Mod o.R w w') (p : Th) (hp : p.P w') (hpR : ∀ k, p.R k → w.heap.size ≤ k ∧ k < w'.heap.size) : Side B w' (p :: (l ++ o' :: m)) := by
 have h2 := h.turn l hB hP (fun k hk => .inl (hR k hk)) hM
 refine h2.push p hB hp hpR (fun q hq k hk hk2 => ?_)
 have h3 : k < w.heap.size := by
  simp only [List.mem_cons, List.mem_append] at hq
  rcases hq with e | e | e
  ·exact ((h.mem q (by simp [e])).2 k hk).2
  ·subst e
   exact ((h.mem o (by simp)).2 k (hR k hk)).2
  ·exact ((h.mem q (by simp [e])).2 k hk).2
 have := (hpR k hk2).1
 omega
theorem Side.mod {B : Nat} {w w' : World} {l : List Th} (h : Side B w l) {o : Th} (ho : o ∈ l) (hM : Mod o.R w w') : Mod (fun k => B ≤ k) w w' := hM.mono (fun k _ e => ((h.mem o ho).2 k e).1)
def rowTh (B : Nat) (v : Value) (l : List UInt8) : Th := ⟨fun w => OwnB w B v l, fun k => v.ownBlock = some k, fun _ _ _ h hM hS => hM.own h (fun g hg => hS g hg)⟩
def blkTh (b : Nat) (C : Array Value) (T : TypeId) : Th := ⟨fun w => Blk w b C T, fun k => k = b, fun _ _ _ h hM hS => hM.blk h (hS b rfl)⟩
end Go.Proofs.YtahgidkpjmecdaaGreatDoor
