/- Parts of the proof: YfL YfM YfN YfO YfP YfQ YfT UaD Mrg. -/
import Derived.Test.YtahgidkpjmecdaaGreatDoorB01
import Derived.Test.YtahgidkpjmecdaaGreatDoorB03
import Derived.Test.YtahgidkpjmecdaaGreatDoorB19
import Derived.Test.YtahgidkpjmecdaaGreatDoorB20
import Derived.Test.YtahgidkpjmecdaaGreatDoorB21
import Derived.BigQuiet
import Derived.WalkLawsBesides
import Derived.Maps.AppendAt
set_option maxRecDepth 100000
namespace Go.Proofs.YtahgidkpjmecdaaGreatDoor
open Go.RowKit
theorem size26f (f : HF) (vs vd : Value) : (Tryz.prog.info? 77).map (·.size) = some (hfC f vs vd).size := by show _ = some 4; kernel_rfl
theorem hfC_one {w : World} {f : HF} {vs vd : Value} (h : HFV w f vs vd) : ∀ v ∈ (hfC f vs vd).toList, v.oneCell' = true := by
 obtain ⟨sa, sc, rfl, _⟩ := set_val h.st
 obtain ⟨da, dc, rfl, _⟩ := byts_val h.d
 intro v hv
 simp [hfC] at hv
 rcases hv with rfl | rfl | rfl | rfl <;> rfl
theorem nextE_bad {k : Nat} {b : List UInt8} {n : Nat} (h : (readK k b).2.e ≠ 0 ∨ (readK k b).2.l ≠ [] ∨ rightH (readK k b).1 = false) : nextE k b n = (HF.zero, 0, 3) := by
 unfold nextE
 rw [if_pos h]
theorem nextE_ok {k : Nat} {b : List UInt8} {n : Nat} (h1 : (readK k b).2.e = 0) (h2 : (readK k b).2.l = []) (h3 : rightH (readK k b).1 = true) : nextE k b n = ((readK k b).1, n, 0) := by
 unfold nextE
 rw [if_neg]
 rintro (h | h | h)
 ·exact h h1
 ·exact h h2
 ·rw [h3] at h; cases h
structure NxK (w0 w : World) (rb : Nat) (f : HF) (vs vd : Value) (s : RS) : Prop where
 res : Blk w w0.heap.size zC 77
 fr : Blk w (w0.heap.size + 1) (hfC f vs vd) 77
 rd : Rdr w rb s
 val : ∃ B, w0.heap.size + 2 ≤ B ∧ HFO w B f vs vd
 mod : Mod (fun _ => False) w0 w
theorem NxK.hfv {w0 w : World} {rb : Nat} {f : HF} {vs vd : Value} {s : RS} (h : NxK w0 w rb f vs vd s) : HFV w f vs vd := by
 obtain ⟨_, _, h⟩ := h.val
 exact h.val
theorem NxK.res_hfv {w0 w wz : World} {rb : Nat} {f : HF} {vs vd : Value} {s : RS} (h : NxK w0 w rb f vs vd s) (hM : Mod (fun k => k = w0.heap.size) w wz) : HFV wz f vs vd := by
 obtain ⟨B, hB, h⟩ := h.val
 exact (h.kept hM (fun k hk => by omega)).val
theorem NxK.toF {w0 w w' : World} {rb : Nat} {f : HF} {vs vd : Value} {s : RS} (h : NxK w0 w rb f vs vd s) (hM : Mod (fun _ => False) w w') : NxK w0 w' rb f vs vd s :=
 ⟨hM.blk h.res (fun h => h), hM.blk h.fr (fun h => h), h.rd.kept hM (fun _ _ h => h), (by obtain ⟨B, hB, hv⟩ := h.val; exact ⟨B, hB, hv.kept hM (fun _ h => h.elim)⟩), h.mod.trans hM⟩
theorem NxK.cells {w0 w : World} {rb : Nat} {f : HF} {vs vd : Value} {s : RS} (h : NxK w0 w rb f vs vd s) : w.cell? ⟨w0.heap.size + 1, 0, none⟩ = some (.int .i64 f.k) ∧ w.cell? ⟨w0.heap.size + 1, 1, none⟩ = some (.int .u64 (f.id : Int)) ∧ w.cell? ⟨w0.heap.size + 1, 2, none⟩ = some vs ∧ w.cell? ⟨w0.heap.size + 1, 3, none⟩ = some vd :=
 ⟨h.fr.cellAt 0 rfl, h.fr.cellAt 1 rfl, h.fr.cellAt 2 rfl, h.fr.cellAt 3 rfl⟩
set_option maxHeartbeats 4000000 in
set_option maxRecDepth 10000 in
theorem next_kind {w : World} {v : Value} {b : List UInt8} (h : Byts w v b) (hl : (b.length : Int) ≤ 100000) (h1 : (RS.int ⟨b, 0⟩).2.e = 0) (ho : isOld (RS.int ⟨b, 0⟩).1 = false) (h3 : ((RS.int ⟨b, 0⟩).2.int.2.bytes (RS.int ⟨b, 0⟩).2.int.1).2.e = 0) (hk : isKind (RS.int ⟨b, 0⟩).1 = true) (fn1 fn2 : Nat) (hkf : hkindsF ((RS.int ⟨b, 0⟩).1 : Int) = some (pairV fn1 fn2)) (hrd : KReads fn2 (RS.int ⟨b, 0⟩).1) (eg : ∀ args w, (callFunc fn2 args).run Tryz.prog w = .ok (.enter fn2 args) w) : Calls Tryz.prog 117 #[v] w (hNextR w (nextL b)) := by
 obtain ⟨R, hR⟩ : ∃ x, x = nextL b := ⟨_, rfl⟩
 rw [← hR]
 have HRR : Hid (R = nextE (RS.int ⟨b, 0⟩).1 ((RS.int ⟨b, 0⟩).2.int.2.bytes (RS.int ⟨b, 0⟩).2.int.1).1 (b.length - ((RS.int ⟨b, 0⟩).2.int.2.bytes (RS.int ⟨b, 0⟩).2.int.1).2.l.length)) := hR.trans (nextL_kind ho h3 hk)
 clear hR
 have H := Lib.hid h
 have HL := Lib.hid hl
 obtain ⟨a, cap, rfl, _⟩ := byts_val h
 obtain ⟨bl, hbl⟩ : ∃ x, x = b.length := ⟨_, rfl⟩
 rw [← hbl] at HL ⊢
 have HBL := Lib.hid hbl
 clear h hl hbl
 have HKF := Lib.hid hkf
 have HRD := Lib.hid hrd
 have HBODY : Hid ((((RS.int ⟨b, 0⟩).2.int.2.bytes (RS.int ⟨b, 0⟩).2.int.1).1.length : Int) ≤ 100000) := by
  show _ ≤ _
  have i1 := int_len ⟨b, 0⟩
  have i2 := int_len (RS.int ⟨b, 0⟩).2
  have i3 := (bytes_len (RS.int ⟨b, 0⟩).2.int.2 (RS.int ⟨b, 0⟩).2.int.1).2
  have := HL.out
  have := HBL.out
  simp only at i1
  omega
 clear hkf hrd
 have HB3 := Lib.hid h3
 have HLL : Hid (((RS.int ⟨b, 0⟩).2.int.2.bytes (RS.int ⟨b, 0⟩).2.int.1).2.l.length ≤ b.length) := by
  show _ ≤ _
  have i1 := int_len ⟨b, 0⟩
  have i2 := int_len (RS.int ⟨b, 0⟩).2
  have i3 := (bytes_len (RS.int ⟨b, 0⟩).2.int.2 (RS.int ⟨b, 0⟩).2.int.1).1
  simp only at i1
  omega
 clear h3
 go_enter Tryz.func117, Tryz.ntmps117
 go_wp2_with fail
 have hM0 : Mod (fun _ => False) w ((w.alloc (.cells zC 77)).alloc (.cells zC 77)) := ((Mod.refl _ w).alloc _).alloc _
 rw [HBL.out]
 refine (read_any (byts_kept H.out hM0) (by have := HL.out; have := HBL.out; omega)).mono ?_
 rintro e w1 ⟨rb, rfl, hrb, hr, hM1⟩
 rw [← HBL.out]
 have HS : Hid (NxS w w1 rb ⟨b, 0⟩) := ⟨hM1.blk ((Blk.new w zC _).alloc _) (fun h => h), hM1.blk (by have := Blk.new (w.alloc (.cells zC 77)) zC 77; rwa [show (w.alloc (.cells zC 77)).heap.size = w.heap.size + 1 by simp] at this) (fun h => h), hr, by simpa using hrb, hM0.trans hM1⟩
 clear hM0 hM1 hr hrb
 go_wp2_with fail
 refine (int_any HS.out.rd).mono ?_
 rintro e w2 ⟨rfl, hr, hM⟩
 have HS2 := Lib.hid (HS.out.toR hM hr)
 clear hr hM HS
 have HS := HS2
 clear HS2
 generalize RS.int ⟨b, 0⟩ = R1 at *
 obtain ⟨t, s1⟩ := R1
 simp only at *
 have ht : (s1.e == 0) = true := by simpa using h1
 have hz : ¬ (t : Int) = 2 ∧ ¬ (t : Int) = 6 ∧ ¬ (t : Int) = 8 ∧ ¬ (t : Int) = 9 := by
  unfold isOld at ho
  simp only [Bool.or_eq_false_iff, decide_eq_false_iff_not] at ho
  omega
 have t2 : ((t : Int) == 2) = false := by simpa using hz.1
 have t6 : ((t : Int) == 6) = false := by simpa using hz.2.1
 have t8 : ((t : Int) == 8) = false := by simpa using hz.2.2.1
 have t9 : ((t : Int) == 9) = false := by simpa using hz.2.2.2
 clear h1 ho hz
 have hz13 : (t : Int) ≤ 13 := by
  unfold isKind isData isId at hk
  simp only [Bool.or_eq_true, decide_eq_true_eq] at hk
  omega
 have hzd : decide ((13 : Int) < (t : Int)) = false := decide_eq_false (by omega)
 have hwz : IntKind.i64.wrap (t : Int) = (t : Int) := IntWalk.i64_in _ (by omega)
 have HOK := Lib.hid (hokKey_small (z := (t : Int)) (by omega) (by omega))
 have HTT : Hid (∀ (X : World) (fb : Nat), Blk X fb #[.int .i64 (t : Int), .int .u64 0, .slice none 0 0, .slice none 0 0] 77 → Blk X fb (hfC ⟨(t : Int), 0, [], []⟩ (.slice none 0 0) (.slice none 0 0)) 77) := fun X fb h => h
 clear hk hz13
 generalize hzt : (t : Int) = z at *
 have HZT := Lib.hid hzt
 clear hzt
 go_wp2_with (first
  | (go_at_call 122; refine (bad_any HS.out.rd).mono ?_; rintro e w' ⟨rfl, rfl⟩)
  | fail)
 refine (int_any HS.out.rd).mono ?_
 rintro e w3 ⟨rfl, hr, hM⟩
 have HS2 := Lib.hid (HS.out.toR hM hr)
 clear hr hM HS
 have HS := HS2
 clear HS2
 go_wp2_with fail
 refine (bytes_any s1.int.1 HS.out.rd).mono ?_
 rintro e w4 ⟨vb, rfl, hob, hr, hM⟩
 have HS2 := Lib.hid (HS.out.toR hM hr)
 clear hr hM HS
 have HS := HS2
 clear HS2
 obtain ⟨ba, bc, rfl, _⟩ := byts_val hob.byts
 have HOB := Lib.hid hob
 clear hob
 generalize s1.int = R2 at *
 generalize R2.2.bytes R2.1 = R3 at *
 have ht3 : (R3.2.e != 0) = false := by simpa using HB3.out
 have hobl : R3.1.length = R3.1.length := rfl
 generalize hnb : R3.1.length = nb at *
 rw [← HBL.out] at HLL HRR
 have hnn : IntKind.i64.wrap ((bl : Int) - (R3.2.l.length : Int)) = ((bl - R3.2.l.length : Nat) : Int) := by have := HLL.out; have := HL.out; rw [IntWalk.i64_in _ (by omega)]; omega
 generalize bl - R3.2.l.length = nn at *
 have HNB := Lib.hid hnb
 clear hnb hobl
 go_wp2_with (first
  | (go_at_call 122; refine (bad_any HS.out.rd).mono ?_; rintro e w' ⟨rfl, rfl⟩)
  | (go_at_call 79; refine (left_any HS.out.rd).mono ?_; rintro e w' ⟨rfl, rfl⟩)
  | fail)
 refine (hkinds_any _).mono ?_
 rintro e w5 ⟨mb, rfl, hV, hk5⟩
 have HS2 := Lib.hid (HS.out.toF hk5)
 have HOB2 := Lib.hid (byts_kept HOB.out.byts hk5)
 clear HS hk5 HOB
 have HS := HS2
 have HOB := HOB2
 clear HS2 HOB2
 have hn5 : ¬ w5.heap.size = w.heap.size + 1 := by have := HS.out.lo; have := HS.out.rd.lt; omega
 have hn5' : ¬ w.heap.size + 1 = w5.heap.size := fun h => hn5 h.symm
 have hlk := hV.hlook2 (t := 119) (e := 118) HOK.out Tryz.underlying119 (hzero_kind w5)
 rw [HKF.out] at hlk
 simp only [Option.getD_some, Option.isSome_some] at hlk
 clear hV
 go_wp2_with (first
  | ((with_reducible refine wpList_store_blk ?_ 118 (.tmp 10) (.tmp 59) ?_ w5.heap.size ?_ #[.nilFunc, .nilFunc] #[hfnV fn1, hfnV fn2] ?_ 118 (Blk.new _ _ _) (size55 _ _) ?_ ?_ ?_); (iterate 5 exact rfl); (· intro v hv; simp at hv; rcases hv with rfl | rfl <;> rfl); intro w6 hB6 hM6; have hm6 : Mod (fun _ => False) w5 w6 := ((Mod.refl (fun _ => False) w5).alloc _).trans' hM6 (fun i hi e => by omega); have HX := Lib.hid (HS.out.toF hm6); have HOB2 := Lib.hid (byts_kept HOB.out hm6); clear HOB; have HOB := HOB2; clear HOB2; clear hM6 hm6 HS; have HS := HX; clear HX)
  | fail)
 refine (read_any HOB.out (by have := HBODY.out; have := HNB.out; omega)).mono ?_
 rintro e w7 ⟨xb, rfl, hxb, hrx, hk7⟩
 have HS7 := Lib.hid (HS.out.toF hk7)
 have hl7 := HS.out.lo
 have hr7 := HS.out.rd.lt
 have hb7 := hk7.blk hB6 (fun h => h)
 have hp7 : w7.cell? ⟨w5.heap.size, 1, none⟩ = some (.func (.func fn2) #[] #[]) := hb7.cellAt 1 rfl
 have hc7 : w7.cell? ⟨w.heap.size + 1, 0, none⟩ = some (.int .i64 0) := HS7.out.f.cellAt 0 rfl
 have hz7 := HS7.out.f.free 0
 have HLX : Hid (w6.heap.size ≤ xb) := hxb
 have HL6 : Hid (w.heap.size + 2 ≤ w6.heap.size) := by show _ ≤ _; omega
 clear hl7 hr7 hb7 hB6 hk7 hxb HS hlk
 have hrS := rdr_set (p := ⟨w.heap.size + 1, 0, none⟩) (v := .int .i64 z) hrx HS7.out.f rfl
 have hfS : Blk (w7.setCell ⟨w.heap.size + 1, 0, none⟩ (.int .i64 z)) (w.heap.size + 1) (hfC ⟨(t : Int), 0, [], []⟩ (.slice none 0 0) (.slice none 0 0)) 77 := by
  rw [HZT.out]
  exact HTT.out _ _ (HS7.out.f.set 0 _)
 have hgS : Blk (w7.setCell ⟨w.heap.size + 1, 0, none⟩ (.int .i64 z)) w.heap.size zC 77 := HS7.out.res.setOther (by simp) _
 have hmS : Mod (fun _ => False) w (w7.setCell ⟨w.heap.size + 1, 0, none⟩ (.int .i64 z)) := HS7.out.mod.setCell (fun h => by simp at h; omega) _
 have hL9 : Hid (w.heap.size + 2 ≤ w7.heap.size) := by show _ ≤ _; have := hrx.lt; have := HLX.out; have := HL6.out; omega
 have HRS := Lib.hid hrS
 have HFS := Lib.hid hfS
 have HGS := Lib.hid hgS
 have HMS := Lib.hid hmS
 clear hrS hfS hgS hmS hrx HS7
 go_wp2_with fail
 refine (HRD.out _ xb (w.heap.size + 1) R3.1 (by have := HBODY.out; have := HNB.out; omega) HRS.out HFS.out).mono ?_
 rintro e w8 ⟨rfl, vs, vd, hV8, hf8, hr8, hM8⟩
 have HK : Hid (NxK w w8 xb (readK t R3.1).1 vs vd (readK t R3.1).2) := ⟨hM8.blk HGS.out (by have := HLX.out; have := HL6.out; omega), hf8, hr8, ⟨_, by simp; have := HLX.out; have := HL6.out; have := HMS.out.size; have h9 := hL9.out; omega, hV8⟩, HMS.out.trans' hM8 (fun i hi e => by have := HLX.out; have := HL6.out; omega)⟩
 have HE1 : Hid ((readK t R3.1).2.e ≠ 0 ∨ (readK t R3.1).2.l ≠ [] ∨ rightH (readK t R3.1).1 = false → R = (HF.zero, 0, 3)) := fun h => HRR.out.trans (nextE_bad h)
 have HE2 : Hid ((readK t R3.1).2.e = 0 → (readK t R3.1).2.l = [] → rightH (readK t R3.1).1 = true → R = ((readK t R3.1).1, nn, 0)) := fun h1 h2 h3 => HRR.out.trans (nextE_ok h1 h2 h3)
 clear hV8 hf8 hr8 hM8 HRS HFS HGS HMS HRD HRR hp7 hc7 hz7
 generalize readK t R3.1 = G at *
 obtain ⟨g, x⟩ := G
 simp only at HK HE1 HE2
 obtain ⟨f0, f1, f2, f3⟩ := HK.out.cells
 by_cases hxe : x.e = 0
 case neg =>
  have hxt : (x.e != 0) = true := by simpa using hxe
  have HRZ := Lib.hid (HE1.out (.inl hxe))
  clear hxe
  go_wp2_with (first
   | (go_at_call 122; refine (bad_any HK.out.rd).mono ?_; rintro e w' ⟨rfl, rfl⟩)
   | ((with_reducible refine wpList_store_blk ?_ 77 (.tmp 2) (.tmp 87) ?_ w.heap.size ?_ zC zC ?_ 77 HK.out.res size26z ?_ zC_one ?_); (iterate 5 exact rfl); intro wz hBz hMz)
   | fail)
  refine bodyPost_ret (v := .tuple #[.agg zC, .int .i64 ((0 : Nat) : Int), .int .i64 3]) ?_ rfl ?_
  ·exact next_run Tryz.results117 rfl rfl rfl hBz size26z
  ·rw [HRZ.out]
   exact next_zero (HK.out.mod.trans' hMz (fun i hi e => by omega))
 case pos =>
  have hxt : (x.e != 0) = false := by simpa using hxe
  have HXE := Lib.hid hxe
  clear hxe
  by_cases hxl : x.l = []
  case neg =>
   have HRZ := Lib.hid (HE1.out (.inr (.inl hxl)))
   have hxd : decide ((0 : Int) < (x.l.length : Int)) = true := by
    apply decide_eq_true
    have : 0 < x.l.length := by cases h : x.l with | nil => exact absurd h hxl | cons => simp
    omega
   have hxd' : (0 : Int) < (x.l.length : Int) := of_decide_eq_true hxd
   have hleft := left_any HK.out.rd
   generalize (x.l.length : Int) = xl at *
   clear hxl
   go_wp2_with (first
    | (go_at_call 122; refine (bad_any HK.out.rd).mono ?_; rintro e w' ⟨rfl, rfl⟩)
    | (go_at_call 79; refine (hleft).mono ?_; rintro e w' ⟨rfl, rfl⟩)
    | ((with_reducible refine wpList_store_blk ?_ 77 (.tmp 2) (.tmp 87) ?_ w.heap.size ?_ zC zC ?_ 77 HK.out.res size26z ?_ zC_one ?_); (iterate 5 exact rfl); intro wz hBz hMz)
    | fail)
   refine bodyPost_ret (v := .tuple #[.agg zC, .int .i64 ((0 : Nat) : Int), .int .i64 3]) ?_ rfl ?_
   ·exact next_run Tryz.results117 rfl rfl rfl hBz size26z
   ·rw [HRZ.out]
    exact next_zero (HK.out.mod.trans' hMz (fun i hi e => by omega))
  case pos =>
   have hleft := left_any HK.out.rd
   rw [hxl] at hleft
   have HXL := Lib.hid hxl
   clear hxl
   go_wp2_with (first
    | (go_at_call 122; refine (bad_any HK.out.rd).mono ?_; rintro e w' ⟨rfl, rfl⟩)
    | (go_at_call 79; refine (hleft).mono ?_; rintro e w' ⟨rfl, rfl⟩)
    | fail)
   refine (hright_any HK.out.hfv).mono ?_
   rintro e w9 ⟨rfl, hk9⟩
   have HK2 := Lib.hid (HK.out.toF hk9)
   clear HK hk9 hleft
   have HK := HK2
   clear HK2
   cases hrg : rightH g
   ·have HRZ := Lib.hid (HE1.out (.inr (.inr hrg)))
    clear hrg
    go_wp2_with (first
     | ((with_reducible refine wpList_store_blk ?_ 77 (.tmp 2) (.tmp 87) ?_ w.heap.size ?_ zC zC ?_ 77 HK.out.res size26z ?_ zC_one ?_); (iterate 5 exact rfl); intro wz hBz hMz)
     | fail)
    refine bodyPost_ret (v := .tuple #[.agg zC, .int .i64 ((0 : Nat) : Int), .int .i64 3]) ?_ rfl ?_
    ·exact next_run Tryz.results117 rfl rfl rfl hBz size26z
    ·rw [HRZ.out]
     exact next_zero (HK.out.mod.trans' hMz (fun i hi e => by omega))
   ·have HRZ := Lib.hid (HE2.out HXE.out HXL.out hrg)
    clear hrg
    go_wp2_with (first
     | ((with_reducible refine wpList_load_blk ?_ 77 (.tmp 5) ?_ (w.heap.size + 1) ?_ (hfC g vs vd) 77 _ HK.out.fr Tryz.underlying77 ?_ (size26f _ _ _) ?_); (iterate 4 exact rfl))
     | ((with_reducible refine wpList_store_blk ?_ 77 (.tmp 2) (.tmp 88) ?_ w.heap.size ?_ zC (hfC g vs vd) ?_ 77 HK.out.res (size26f _ _ _) ?_ (hfC_one HK.out.hfv) ?_); (iterate 5 exact rfl); intro wz hBz hMz)
     | fail)
    refine bodyPost_ret (v := .tuple #[.agg (hfC g vs vd), .int .i64 ((nn : Nat) : Int), .int .i64 0]) ?_ rfl ?_
    ·exact next_run Tryz.results117 rfl rfl rfl hBz (size26 _ _ _ _)
    ·rw [HRZ.out]
     exact ⟨vs, vd, rfl, HK.out.res_hfv hMz, HK.out.mod.trans' hMz (fun i hi e => by omega)⟩
theorem enter_rdata (args : Array Value) (w : World) : (callFunc 77 args).run Tryz.prog w = .ok (.enter 77 args) w := by kernel_rfl
theorem enter_rid (args : Array Value) (w : World) : (callFunc 81 args).run Tryz.prog w = .ok (.enter 81 args) w := by kernel_rfl
theorem enter_rset (args : Array Value) (w : World) : (callFunc 84 args).run Tryz.prog w = .ok (.enter 84 args) w := by kernel_rfl
theorem hkind_cases {k : Nat} (h : isKind k = true) : k = 0 ∨ k = 1 ∨ k = 3 ∨ k = 4 ∨ k = 7 ∨ k = 13 := by
 unfold isKind isData isId at h
 simp only [Bool.or_eq_true, decide_eq_true_eq] at h
 omega
theorem hnext_any {w : World} {v : Value} {b : List UInt8} (h : Byts w v b) (hl : (b.length : Int) ≤ 100000) : Calls Tryz.prog 117 #[v] w (hNextR w (nextL b)) := by
 by_cases h1 : (RS.int ⟨b, 0⟩).2.e = 0
 ·cases ho : isOld (RS.int ⟨b, 0⟩).1
  ·by_cases h3 : ((RS.int ⟨b, 0⟩).2.int.2.bytes (RS.int ⟨b, 0⟩).2.int.1).2.e = 0
   ·cases hk : isKind (RS.int ⟨b, 0⟩).1
    ·exact next_none h hl h1 ho h3 hk
    ·rcases hkind_cases hk with e | e | e | e | e | e
     ·exact next_kind h hl h1 ho h3 hk _ _ (by rw [e]; rfl) (by rw [e]; exact kread_data 0 (.inl rfl)) enter_rdata
     ·exact next_kind h hl h1 ho h3 hk _ _ (by rw [e]; rfl) (by rw [e]; exact kread_data 1 (.inr rfl)) enter_rdata
     ·exact next_kind h hl h1 ho h3 hk _ _ (by rw [e]; rfl) (by rw [e]; exact kread_id 3 (.inl rfl)) enter_rid
     ·exact next_kind h hl h1 ho h3 hk _ _ (by rw [e]; rfl) (by rw [e]; exact kread_set) enter_rset
     ·exact next_kind h hl h1 ho h3 hk _ _ (by rw [e]; rfl) (by rw [e]; exact kread_id 7 (.inr (.inl rfl))) enter_rid
     ·exact next_kind h hl h1 ho h3 hk _ _ (by rw [e]; rfl) (by rw [e]; exact kread_id 13 (.inr (.inr rfl))) enter_rid
   ·exact next_short h hl h1 ho h3
  ·exact next_old h hl h1 ho
 ·exact next_bad h hl h1
abbrev UTabs (w : World) : Prop := Lib.Utf8Tabs 3 4 w
theorem utabs_mod {S : Nat → Prop} {w w' : World} (h : UTabs w) (hM : Mod S w w') (h1 : ¬ S 3) (h2 : ¬ S 4) : UTabs w' :=
 ⟨fun c hc => hM.cellAt (h.1 c hc) h1, fun i hi => ⟨hM.cellAt (h.2 i hi).1 h2, hM.cellAt (h.2 i hi).2 h2⟩⟩
theorem UTabs.kept {w w' : World} (h : UTabs w) (hM : Mod (fun _ => False) w w') : UTabs w' := utabs_mod h hM (fun h => h) (fun h => h)
theorem drune {w : World} {b off cap : Nat} (m : List UInt8) (hT : UTabs w) (hc : ∀ (j : Nat) (y : UInt8), m[j]? = some y → w.cell? ⟨b, off + j, none⟩ = some (bv y)) :
  Calls Tryz.prog 223 #[.slice (some ⟨b, off, none⟩) m.length cap] w fun e w' => e = .returned (.tuple #[.int .i32 ((Lib.decodeGo ⟨m.toArray⟩).1 : Int), .int .i64 ((Lib.decodeGo ⟨m.toArray⟩).2 : Int)]) ∧ Mod (fun _ => False) w w' := by
 have h := Any7.utf8_DecodeRune Tryz.lays32 ⟨m.toArray⟩ b off cap w hT (fun j hj => by
  rw [dec_size] at hj
  have hy : m[j]? = some m[j] := List.getElem?_eq_getElem hj
  rw [dec_get m j _ hy]
  exact hc j _ hy)
 rw [dec_size] at h
 refine Calls.mono h ?_
 rintro e w' ⟨rfl, hb⟩
 exact ⟨rfl, (Mod.ofBelow hb).mono (fun k hk hs => absurd hs (by omega))⟩
set_option maxRecDepth 10000 in
theorem upper_any (z : Int) (w : World) (b : Bool) (hb : (decide (65 ≤ z) && decide (z ≤ 90)) = b) : Calls Tryz.prog 90 #[.int .i32 z] w fun e w' => w = w' ∧ e = .returned (.bool b) := by
 by_cases h : (65 : Int) ≤ z
 ·have t1 : decide ((65 : Int) ≤ z) = true := decide_eq_true h
  rw [t1, Bool.true_and] at hb
  have HB := Lib.hid hb
  clear hb
  go_enter Tryz.func90, Tryz.ntmps90
  go_wp2
  go_ret
  exact ⟨rfl, ret_bool HB.out⟩
 ·have t1 : decide ((65 : Int) ≤ z) = false := decide_eq_false h
  rw [t1, Bool.false_and] at hb
  have HB := Lib.hid hb
  clear hb
  go_enter Tryz.func90, Tryz.ntmps90
  go_wp2
  go_ret
  exact ⟨rfl, ret_bool HB.out⟩
theorem any_take_add {l : List UInt8} {p k : Nat} (h : (l.take p).any isUp = false) (hk : ∀ j y, j < k → l[p + j]? = some y → isUp y = false) : (l.take (p + k)).any isUp = false := by
 rw [List.any_eq_false] at h ⊢
 intro x hx
 obtain ⟨i, hi, he⟩ := List.getElem_of_mem hx
 rw [List.length_take] at hi
 have he' : l[i]? = some x := by
  rw [← he, List.getElem_take, List.getElem?_eq_getElem]
 by_cases hip : i < p
 ·refine h x ?_
  have : (l.take p)[i]? = some x := by rw [List.getElem?_take, if_pos hip]; exact he'
  exact List.mem_of_getElem? this
 ·have := hk (i - p) x (by omega) (by rw [show p + (i - p) = i by omega]; exact he')
  simp [this]
set_option maxHeartbeats 2000000 in
set_option maxRecDepth 10000 in
theorem indexf_any {w : World} {v : Value} {l : List UInt8} (hT : UTabs w) (hv : Byts w v l) (hn : (l.length : Int) ≤ 100000) :
  Calls Tryz.prog 206 #[v, .func (.func 90) #[] #[], .bool true] w fun e w' => ∃ z : Int, e = .returned (.int .i64 z) ∧ (l.any isUp = true → (0 : Int) ≤ z) ∧ (l.any isUp = false → z = -1) ∧ Mod (fun _ => False) w w' := by
 have HT := Lib.hid hT
 have HV := Lib.hid hv
 obtain ⟨a, cap, rfl, hcap, hmax, _⟩ := byts_val hv
 obtain ⟨n, hnn⟩ : ∃ n, n = l.length := ⟨_, rfl⟩
 rw [← hnn] at hn hcap ⊢
 have HN := Lib.hid hnn
 have hnc : (n : Int) ≤ cap := by omega
 obtain ⟨R, hR⟩ : ∃ R, R = l.any isUp := ⟨_, rfl⟩
 rw [← hR]
 have HRR := Lib.hid hR
 have HMAX := Lib.hid hmax
 clear hv hT hcap hnn hR hmax
 go_enter Tryz.func206, Tryz.ntmps206
 go_wp2
 go_loopw [7] (fun s7 wr => ∃ k : Nat, k ≤ n ∧ s7 = .int .i64 k ∧ Mod (fun _ => False) w wr ∧ Hid ((l.take k).any isUp = false)) (fun s7 _ => n - (intOf s7).toNat)
 case atStart => exact ⟨0, Nat.zero_le _, rfl, Mod.refl _ _, by show _ = _; simp⟩
 case round =>
  obtain ⟨k, hk, rfl, hM, HJ⟩ := hrel
  have HMr := Lib.hid hM
  clear hM
  by_cases hkn : (k : Int) < n
  ·have hkl : k < l.length := by have := HN.out; omega
   have hs : l[k]? = some l[k] := List.getElem?_eq_getElem hkl
   generalize l[k] = x at hs
   obtain ⟨b, off, cp, hv, _, _, hcs⟩ := byts_addr HV.out (by rintro rfl; simp at hkl)
   simp only [Value.slice.injEq] at hv
   obtain ⟨rfl, _, rfl⟩ := hv
   have hdl : (l.drop k).length = n - k := by rw [List.length_drop]; have := HN.out; omega
   have HD := Lib.hid (drune (w := wr) (b := b) (off := off + k) (cap := cap - k) (l.drop k) (HT.out.kept HMr.out) (fun j y hy => by
    rw [List.getElem?_drop] at hy
    have := HMr.out.cellAt (hcs (k + j) y hy) (fun h => h)
    rwa [← Nat.add_assoc] at this))
   rw [hdl] at HD
   have h0 : (l.drop k)[0]? = some x := by rw [List.getElem?_drop]; exact hs
   have HNX : Hid (∃ (r : Nat) (d : Nat) (u : Bool), Lib.decodeGo ⟨(l.drop k).toArray⟩ = (r, d) ∧ (decide (65 ≤ (r : Int)) && decide ((r : Int) ≤ 90)) = u ∧ 1 ≤ d ∧ k + d ≤ n ∧ (u = true → R = true) ∧ (u = false → (l.take (k + d)).any isUp = false)) := by
    show ∃ _, _
    by_cases ha : x.toNat < 128
    ·refine ⟨x.toNat, 1, _, dec_ascii _ x h0 ha, rfl, Nat.le_refl _, by have := HN.out; omega, fun hu => ?_, fun hu => ?_⟩
     ·rw [HRR.out]
      refine List.any_eq_true.2 ⟨x, List.mem_of_getElem? hs, ?_⟩
      unfold isUp
      simp only [Bool.and_eq_true, decide_eq_true_eq] at hu ⊢
      omega
     ·refine any_take_add HJ.out (fun j y hj hy => ?_)
      obtain rfl : j = 0 := by omega
      rw [Nat.add_zero, hs] at hy
      obtain rfl := Option.some.inj hy
      unfold isUp
      rw [← hu, Bool.eq_iff_iff]
      simp only [Bool.and_eq_true, decide_eq_true_eq]
      omega
    ·obtain ⟨d1, d2, d3, d4⟩ := dec_high _ x h0 ha
     have hd : Lib.decodeGo ⟨(l.drop k).toArray⟩ = ((Lib.decodeGo ⟨(l.drop k).toArray⟩).1, (Lib.decodeGo ⟨(l.drop k).toArray⟩).2) := rfl
     generalize (Lib.decodeGo ⟨(l.drop k).toArray⟩).1 = r at *
     generalize (Lib.decodeGo ⟨(l.drop k).toArray⟩).2 = d at *
     rw [hdl] at d3
     have hu0 : (decide (65 ≤ (r : Int)) && decide ((r : Int) ≤ 90)) = false := by
      rw [show decide ((r : Int) ≤ 90) = false from decide_eq_false (by omega), Bool.and_false]
     refine ⟨r, d, false, hd, hu0, d2, by omega, fun h => (by cases h), fun _ => any_take_add HJ.out (fun j y hj hy => ?_)⟩
     have := d4 j y hj (by rw [List.getElem?_drop]; exact hy)
     unfold isUp
     rw [Bool.and_eq_false_iff]
     right
     exact decide_eq_false (by omega)
   clear hs hcs hkl h0 hdl
   obtain ⟨r, d, u, e1, hu, hd1, hdn, hyes, hno⟩ := HNX.out
   rw [e1] at HD
   simp only at HD
   have HU := Lib.hid (fun w => upper_any (r : Int) w u hu)
   have HYES := Lib.hid hyes
   have HNO := Lib.hid hno
   have HD1 := Lib.hid hd1
   have HDN := Lib.hid hdn
   clear hu hyes hno HNX e1 hd1 hdn
   have hksub : ((n : Int) - (k : Int)) = ((n - k : Nat) : Int) := by omega
   have hksubc : ((cap : Int) - (k : Int)) = ((cap - k : Nat) : Int) := by omega
   generalize (r : Int) = rz at *
   have hkd : (k : Int) + (d : Int) ≤ n := by have := HDN.out; omega
   have hd0 : (0 : Int) ≤ d := by omega
   go_wp2_with fail
   refine (HD.out).mono ?_
   rintro e w1 ⟨rfl, hM1⟩
   have HM1 := Lib.hid (HMr.out.trans hM1)
   clear hM1
   go_wp2_with fail
   refine (HU.out _).mono ?_
   rintro e w2 ⟨rfl, rfl⟩
   cases u
   ·go_wp2_with fail
    go_roundw
    case rel => exact ⟨k + d, HDN.out, by go_num, HM1.out, HNO.out trivial⟩
    case measure => have := HD1.out; simp [intOf]; omega
   ·go_wp2_with fail
    go_ret
    exact ⟨(k : Int), rfl, fun _ => by omega, fun h => (by rw [HYES.out trivial] at h; cases h), HM1.out⟩
  ·have hkn' : k = n := by omega
   have hall : l.take k = l := List.take_of_length_le (by have := HN.out; omega)
   have HJ' := HJ.out
   rw [hall, ← HRR.out] at HJ'
   have HJJ := Lib.hid HJ'
   clear HJ'
   go_wp2
   go_ret
   exact ⟨-1, rfl, fun h => (by rw [HJJ.out] at h; cases h), fun _ => rfl, HMr.out⟩
set_option maxRecDepth 10000 in
theorem indexfn_any {w : World} {v : Value} {l : List UInt8} (hT : UTabs w) (hv : Byts w v l) (hn : (l.length : Int) ≤ 100000) :
  Calls Tryz.prog 127 #[v, .func (.func 90) #[] #[]] w fun e w' => ∃ z : Int, e = .returned (.int .i64 z) ∧ (l.any isUp = true → (0 : Int) ≤ z) ∧ (l.any isUp = false → z = -1) ∧ Mod (fun _ => False) w w' := by
 have HX := Lib.hid (indexf_any hT hv hn)
 obtain ⟨R, hR⟩ : ∃ R, R = l.any isUp := ⟨_, rfl⟩
 rw [← hR] at HX ⊢
 obtain ⟨a, cap, rfl, _⟩ := byts_val hv
 clear hv hR hn hT
 generalize l.length = n at *
 go_enter Tryz.func127, Tryz.ntmps127
 go_wp2_with fail
 refine (HX.out).mono ?_
 rintro e w1 ⟨z, rfl, h1, h2, hM⟩
 have H1 := Lib.hid h1
 have H2 := Lib.hid h2
 clear h1 h2
 go_wp2
 go_ret
 exact ⟨z, rfl, H1.out, H2.out, hM⟩
set_option maxRecDepth 10000 in
theorem upin_any {w : World} {v : Value} {l : List UInt8} (hT : UTabs w) (hv : Byts w v l) (hn : (l.length : Int) ≤ 100000) :
  Calls Tryz.prog 89 #[v, .func (.func 90) #[] #[]] w fun e w' => e = .returned (.bool (l.any isUp)) ∧ Mod (fun _ => False) w w' := by
 have HX := Lib.hid (indexfn_any hT hv hn)
 obtain ⟨R, hR⟩ : ∃ R, R = l.any isUp := ⟨_, rfl⟩
 rw [← hR] at HX ⊢
 obtain ⟨a, cap, rfl, _⟩ := byts_val hv
 clear hv hR hn hT
 generalize l.length = n at *
 go_enter Tryz.func89, Tryz.ntmps89
 go_wp2_with fail
 refine (HX.out).mono ?_
 rintro e w1 ⟨z, rfl, h1, h2, hM⟩
 have H1 := Lib.hid h1
 have H2 := Lib.hid h2
 clear h1 h2
 go_wp2
 go_ret
 refine ⟨ret_bool ?_, hM⟩
 have h1 := H1.out
 have h2 := H2.out
 cases hi : R
 ·have := h2 hi; subst this; rfl
 ·have := h1 hi; simpa using this
def strV (l : List UInt8) : Value := .string ⟨l.toArray⟩
theorem str_size (l : List UInt8) : (ByteArray.mk l.toArray).size = l.length := by simp [ByteArray.size]
def fdC (f : Fd) : List Value := [strV f.n, strV f.v]
def FldV (w : World) (v : Value) (l : List Fd) : Prop := Sl w 2 v l.length (l.flatMap fdC)
theorem fdC_one (l : List Fd) : ∀ u ∈ l.flatMap fdC, u.oneCell' = true := by
 intro u hu
 obtain ⟨s, _, h⟩ := List.mem_flatMap.1 hu
 simp only [fdC, List.mem_cons, List.not_mem_nil, or_false] at h
 rcases h with rfl | rfl <;> rfl
theorem fdC_at : ∀ (l : List Fd) (i : Nat) (s : Fd), l[i]? = some s → (l.flatMap fdC)[i * 2]? = some (strV s.n) ∧ (l.flatMap fdC)[i * 2 + 1]? = some (strV s.v)
 | [], i, s, h => by simp at h
 | x :: l, 0, s, h => by simp at h; subst h; exact ⟨rfl, rfl⟩
 | x :: l, i + 1, s, h => by
  have := fdC_at l i s (by simpa using h)
  rw [List.flatMap_cons, show (i + 1) * 2 = i * 2 + 2 by omega]
  exact this
theorem fld_val {w : World} {v : Value} {l : List Fd} (h : FldV w v l) : ∃ a cap, v = .slice a l.length cap ∧ l.length ≤ cap ∧ cap ≤ maxLen ∧ (a = none → cap = 0) := Sl.val h
theorem fld_addr {w : World} {v : Value} {l : List Fd} (h : FldV w v l) (hx : l ≠ []) :
  ∃ b off cap, v = .slice (some ⟨b, off, none⟩) l.length cap ∧ l.length ≤ cap ∧ cap ≤ maxLen ∧ ∀ i s, l[i]? = some s → w.cell? ⟨b, off + i * 2, none⟩ = some (strV s.n) ∧ w.cell? ⟨b, off + i * 2 + 1, none⟩ = some (strV s.v) := by
 obtain ⟨b, off, cap, h1, h2, h3, h4⟩ := Sl.addr h (by
  cases l with
  | nil => exact absurd rfl hx
  | cons x l => simp [fdC])
 refine ⟨b, off, cap, h1, h2, h3, fun i s hs => ?_⟩
 obtain ⟨e1, e2⟩ := fdC_at l i s hs
 exact ⟨h4 _ _ e1, by rw [Nat.add_assoc]; exact h4 _ _ e2⟩
theorem FldV.kept {w w' : World} {v : Value} {l : List Fd} (h : FldV w v l) (hM : Mod (fun _ => False) w w') : FldV w' v l := Sl.kept h hM (fun _ _ h => h)
theorem bytesRow_at (l : List UInt8) (cap j : Nat) (u : Value) (h : (l.map bv)[j]? = some u) : (bytesRow ⟨l.toArray⟩ cap)[j]? = some u := by
 obtain ⟨x, hx, rfl⟩ := by simpa [List.getElem?_map] using h
 have hj := (List.getElem?_eq_some_iff.1 hx).1
 unfold bytesRow
 rw [Array.getElem?_append_left (by simpa using hj)]
 simp [bv, hx]
theorem conv_str (w : World) (l : List UInt8) (hl : (l.length : Int) ≤ 100000) : ∃ c w', (convert 9 31 (strV l)).run Tryz.prog w = .ok (.slice (some ⟨w.heap.size, 0, none⟩) l.length c) w' ∧ Byts w' (.slice (some ⟨w.heap.size, 0, none⟩) l.length c) l ∧ Mod (fun _ => False) w w' := by
 refine ⟨_, _, (by have := run_bytes_of_string (P := Tryz.prog) w 9 31 5 ⟨l.toArray⟩ Tryz.underlying9 Tryz.underlying31 Tryz.underlying5; rw [str_size] at this; exact this), ?_, (Mod.refl _ w).drew.alloc _⟩
 refine ⟨by simp, _, _, rfl, grownCap_ge _ _ _ _, grownCap_le_maxLen _ _ _ _ (by simp only [maxLen]; omega), fun h => by simp at h, fun j u hu => ⟨w.heap.size, 0, rfl, ?_⟩⟩
 rw [Nat.zero_add]
 exact (cell_of_row _ _ _ _ _ _ (heap_alloc_new w.drew _)).trans (bytesRow_at l _ j u hu)
set_option maxHeartbeats 2000000 in
set_option maxRecDepth 10000 in
theorem badfd_any {w : World} (f : Fd) (hT : UTabs w) (h1 : (f.n.length : Int) ≤ 100000) (h2 : (f.v.length : Int) ≤ 100000) :
  Calls Tryz.prog 88 #[.agg #[strV f.n, strV f.v]] w fun e w' => e = .returned (.bool (badFd f)) ∧ Mod (fun _ => False) w w' := by
 obtain ⟨c, wc, hrun, hb, hMc⟩ := conv_str (w.alloc (.cells #[strV f.n, strV f.v] 39)) f.n h1
 have hz : (w.alloc (.cells #[strV f.n, strV f.v] 39)).heap.size = w.heap.size + 1 := by simp
 rw [hz] at hrun hb
 have hMw := ((Mod.refl (fun _ => False) w).alloc (.cells #[strV f.n, strV f.v] 39)).trans hMc
 have HU := Lib.hid (upin_any (hT.kept hMw) hb h1)
 have hs1 := str_size f.n
 have hs2 := str_size f.v
 unfold strV at *
 generalize hb1 : (ByteArray.mk f.n.toArray) = s1 at *
 generalize hb2 : (ByteArray.mk f.v.toArray) = s2 at *
 clear hb1 hb2
 obtain ⟨R, hR⟩ : ∃ R, R = badFd f := ⟨_, rfl⟩
 rw [← hR]
 have HRR : Hid (R = (decide (f.n.length < 1) || decide (60 < f.n.length) || decide (200 < f.v.length) || f.n.any isUp)) := hR
 generalize f.n.any isUp = U at *
 clear hR hT hb hMc
 have HM := Lib.hid hMw
 clear hMw
 generalize f.n.length = n1 at *
 generalize f.v.length = n2 at *
 go_enter Tryz.func88, Tryz.ntmps88
 go_wp2_with fail
 ·refine (HU.out).mono ?_
  rintro e w1 ⟨rfl, hM1⟩
  have HM1 := Lib.hid hM1
  clear hM1
  go_wp2
  go_ret
  refine ⟨ret_bool ?_, HM.out.trans HM1.out⟩
  rw [HRR.out]
  rw [Bool.eq_iff_iff]
  cases U <;> simp <;> omega
 all_goals
  go_ret
  refine ⟨ret_bool ?_, (Mod.refl _ w).alloc _⟩
  rw [HRR.out]
  simp
  try omega
def FdsOk (l : List Fd) : Prop := ∀ f ∈ l, (f.n.length : Int) ≤ 100000 ∧ (f.v.length : Int) ≤ 100000
set_option maxHeartbeats 2000000 in
set_option maxRecDepth 10000 in
theorem fldidx_any {w : World} {v : Value} {l : List Fd} (hT : UTabs w) (hv : FldV w v l) (hn : (l.length : Int) ≤ 100000) (ho : FdsOk l) :
  Calls Tryz.prog 128 #[v, .func (.func 88) #[] #[]] w fun e w' => ∃ z : Int, e = .returned (.int .i64 z) ∧ (l.any badFd = true → (0 : Int) ≤ z) ∧ (l.any badFd = false → z = -1) ∧ Mod (fun _ => False) w w' := by
 have HV := Lib.hid hv
 have HT := Lib.hid hT
 have HO := Lib.hid ho
 obtain ⟨a, cap, rfl, hcap, _⟩ := fld_val hv
 obtain ⟨n, hnn⟩ : ∃ n, n = l.length := ⟨_, rfl⟩
 rw [← hnn] at hn hcap ⊢
 have HN := Lib.hid hnn
 have hnc : (n : Int) ≤ cap := by omega
 obtain ⟨R, hR⟩ : ∃ R, R = l.any badFd := ⟨_, rfl⟩
 rw [← hR]
 have HRR := Lib.hid hR
 clear hv hT ho hcap hnn hR
 go_enter Tryz.func128, Tryz.ntmps128
 go_wp2
 go_loopw [8] (fun s8 wr => ∃ k : Nat, k ≤ n ∧ s8 = .int .i64 k ∧ Mod (fun _ => False) w wr ∧ Hid ((l.take k).any badFd = false)) (fun s8 _ => n - (intOf s8).toNat)
 case atStart => exact ⟨0, Nat.zero_le _, rfl, Mod.refl _ _, by show _ = _; simp⟩
 case round =>
  obtain ⟨k, hk, rfl, hM, HJ⟩ := hrel
  have HMr := Lib.hid hM
  clear hM
  by_cases hkn : (k : Int) < n
  ·have hkl : k < l.length := by have := HN.out; omega
   have hs : l[k]? = some l[k] := List.getElem?_eq_getElem hkl
   generalize l[k] = s at hs
   obtain ⟨b, off, cp, hv, _, _, hcs⟩ := fld_addr HV.out (by rintro rfl; simp at hkl)
   simp only [Value.slice.injEq] at hv
   obtain ⟨rfl, _, rfl⟩ := hv
   obtain ⟨g0, g1⟩ := hcs k s hs
   have g0' := HMr.out.cellAt g0 (fun h => h)
   have g1' := HMr.out.cellAt g1 (fun h => h)
   have HS := Lib.hid hs
   have hos := HO.out s (List.mem_of_getElem? hs)
   have heq := Lib.hid (badfd_any s (HT.out.kept HMr.out) hos.1 hos.2)
   clear g0 g1 hs hcs hkl hos
   generalize hbd : badFd s = B at heq
   have HB := Lib.hid hbd
   clear hbd
   unfold strV at *
   generalize (ByteArray.mk s.n.toArray) = s1 at *
   generalize (ByteArray.mk s.v.toArray) = s2 at *
   cases B
   ·go_wp2_with fail
    refine (heq.out).mono ?_
    rintro e w1 ⟨rfl, hM1⟩
    go_wp2
    go_roundw
    case rel => exact ⟨k + 1, by omega, by go_num, HMr.out.trans hM1, by show _ = _; rw [take_snoc l k s HS.out, List.any_append, HJ.out]; simpa using HB.out⟩
    case measure => simp [intOf]; omega
   ·go_wp2_with fail
    refine (heq.out).mono ?_
    rintro e w1 ⟨rfl, hM1⟩
    go_wp2
    go_ret
    refine ⟨(k : Int), rfl, fun _ => by omega, fun h => ?_, HMr.out.trans hM1⟩
    have hm := List.mem_of_getElem? HS.out
    have : l.any badFd = true := List.any_eq_true.2 ⟨s, hm, HB.out⟩
    rw [HRR.out, this] at h
    cases h
  ·have hkn' : k = n := by omega
   go_wp2
   go_ret
   have hall : l.take k = l := List.take_of_length_le (by have := HN.out; omega)
   have HJ' := HJ.out
   rw [hall] at HJ'
   exact ⟨-1, rfl, fun h => (by rw [HRR.out, HJ'] at h; cases h), fun _ => rfl, HMr.out⟩
theorem fldin_any {w : World} {v : Value} {l : List Fd} (hT : UTabs w) (hv : FldV w v l) (hn : (l.length : Int) ≤ 100000) (ho : FdsOk l) :
  Calls Tryz.prog 91 #[v, .func (.func 88) #[] #[]] w fun e w' => e = .returned (.bool (l.any badFd)) ∧ Mod (fun _ => False) w w' := by
 have HX := Lib.hid (fldidx_any hT hv hn ho)
 obtain ⟨R, hR⟩ : ∃ R, R = l.any badFd := ⟨_, rfl⟩
 rw [← hR] at HX ⊢
 obtain ⟨a, cap, rfl, _⟩ := fld_val hv
 clear hv hT ho hR hn
 generalize l.length = n at *
 go_enter Tryz.func91, Tryz.ntmps91
 go_wp2_with fail
 refine (HX.out).mono ?_
 rintro e w1 ⟨z, rfl, h1, h2, hM⟩
 have H1 := Lib.hid h1
 have H2 := Lib.hid h2
 clear h1 h2
 go_wp2
 go_ret
 refine ⟨ret_bool ?_, hM⟩
 have h1 := H1.out
 have h2 := H2.out
 cases hi : R
 ·have := h2 hi; subst this; rfl
 ·have := h1 hi; simpa using this
theorem flds_any {w : World} {v : Value} {l : List Fd} (hT : UTabs w) (hv : FldV w v l) (hn : (l.length : Int) ≤ 100000) (ho : FdsOk l) :
  Calls Tryz.prog 49 #[v] w fun e w' => e = .returned (.bool (fieldsB l)) ∧ Mod (fun _ => False) w w' := by
 have HX := Lib.hid (fldin_any hT hv hn ho)
 obtain ⟨R, hR⟩ : ∃ R, R = fieldsB l := ⟨_, rfl⟩
 rw [← hR]
 have HRR : Hid (R = (decide (l.length ≤ 32) && !(l.any badFd))) := hR
 obtain ⟨a, cap, rfl, _⟩ := fld_val hv
 clear hv hT ho hR
 generalize l.any badFd = B at *
 generalize l.length = n at *
 go_enter Tryz.func49, Tryz.ntmps49
 go_wp2_with fail
 ·refine (HX.out).mono ?_
  rintro e w1 ⟨rfl, hM⟩
  go_wp2
  go_ret
  refine ⟨ret_bool ?_, hM⟩
  rw [HRR.out]
  rw [Bool.eq_iff_iff]
  cases B <;> simp <;> omega
 ·go_ret
  refine ⟨ret_bool ?_, Mod.refl _ _⟩
  rw [HRR.out]
  rw [Bool.eq_iff_iff]
  cases B <;> simp <;> omega
def OwnF (w : World) (B : Nat) (v : Value) (l : List Fd) : Prop := w.ownsRow B 39 2 v l.length (l.flatMap fdC)
theorem OwnF.fldv {w : World} {B : Nat} {v : Value} {l : List Fd} (h : OwnF w B v l) : FldV w v l := Sl.ofOwn h
theorem OwnF.nil (w : World) (B : Nat) : OwnF w B (.slice none 0 0) [] := World.ownsRow_nil _ _ _ _
theorem OwnF.kept {S : Nat → Prop} {w w' : World} {B : Nat} {v : Value} {l : List Fd} (h : OwnF w B v l) (hM : Mod S w w') (hS : ∀ g, v.ownBlock = some g → ¬ S g) : OwnF w' B v l := hM.own h hS
theorem OwnF.alloc {w : World} {B : Nat} {v : Value} {l : List Fd} (h : OwnF w B v l) (o : Obj) : OwnF (w.alloc o) B v l := h.kept ((Mod.refl (fun _ => False) _).alloc o) (fun _ _ h => h)
theorem OwnF.apart {w : World} {B b : Nat} {v : Value} {l : List Fd} {C : Array Value} {T : TypeId} (h : OwnF w B v l) (hb : Blk w b C T) (ht : T ≠ 39) : ¬ v.ownBlock = some b := by
 intro e
 rcases h.2 with ⟨rfl, _⟩ | ⟨g, cap, cur, rfl, _, hg, _⟩
 ·simp [Value.ownBlock] at e
 ·simp [Value.ownBlock] at e
  subst e
  exact Blk.ne hb (show Blk w g cur 39 from hg) ht rfl
theorem infoFld : (Tryz.prog.info? 39).map (fun i => (i.zero, i.size, i.bytes)) = some (some (.agg #[.string ⟨#[]⟩, .string ⟨#[]⟩]), 2, 32) := by kernel_rfl
theorem wpList_append_f {w : World} {ops : Array Oper} {rest : List Oper} {o : Oper} {a : Act} {Q : Exit → Act → World → Prop} (hgd : o.guard = none) (s x : Operand)
  (ho : o.op = .call { callee := .builtin .append, args := #[s, x], argTypes := #[40, 40] })
  (v : Value) (l : List Fd) (B : Nat) (hs : a.eval s = v) (hown : OwnF w B v l)
  (sv : Value) (news : List Fd) (hx : a.eval x = sv) (hsl : FldV w sv news) (n : Nat) (hn : l.length + news.length = n) (hn2 : (n : Int) ≤ 100000) (hbase : B ≤ w.heap.size) (L : List Fd) (hL : L = l ++ news)
  (h : ∀ ap cp w', OwnF w' B (.slice ap n cp) L → w.grownBy w' v.ownBlock → wpList Tryz.prog ops Q rest (a.put o.dst (.slice ap n cp)) w') : wpList Tryz.prog ops Q (o :: rest) a w := by
 subst hL
 obtain ⟨i0, hi, hz0, hz1, hz2⟩ := info_parts infoFld
 refine wpList_append_sl hgd s x 40 ho B 39 i0 _ 2 32 Tryz.underlying40 hi hz0 hz1 hz2 rfl (by decide) v l.length (l.flatMap fdC) hs hown sv news.length (news.flatMap fdC) hx hsl (fdC_one _) (by omega) (by decide) hbase ?_
 intro v' w' ho' hg
 have e : (l ++ news).length = n := by simpa using hn
 have ho2 : OwnF w' B v' (l ++ news) := by unfold OwnF; simpa using ho'
 obtain ⟨ap, cp, rfl, _⟩ := fld_val ho2.fldv
 rw [e] at ho2 ⊢
 exact h ap cp w' ho2 hg
theorem fld_one (w : World) (s : Fd) : FldV (w.alloc (.cells #[strV s.n, strV s.v] 39)) (.slice (some ⟨w.heap.size, 0, none⟩) 1 1) [s] := by
 have hb := Blk.new w #[strV s.n, strV s.v] 39
 refine ⟨by simp [fdC], some ⟨w.heap.size, 0, none⟩, 1, rfl, Nat.le_refl _, by decide, fun e => by simp at e, fun j u hu => ⟨w.heap.size, 0, rfl, ?_⟩⟩
 simp only [List.flatMap_cons, List.flatMap_nil, List.append_nil, fdC] at hu
 rw [Nat.zero_add]
 match j, hu with
 | 0, hu => simp at hu; subst hu; exact hb.cellAt 0 rfl
 | 1, hu => simp at hu; subst hu; exact hb.cellAt 1 rfl
 | (_ + 2), hu => simp at hu
structure URd (w0 w : World) (rb : Nat) (v : Value) (l : List Fd) (s : RS) : Prop where
 rd : Rdr w rb s
 own : OwnF w w0.heap.size v l
 mod : Mod (fun _ => False) w0 w
 base : w0.heap.size ≤ rb
theorem OwnF.rdr_apart {w : World} {B rb : Nat} {v : Value} {l : List Fd} {s : RS} (h : OwnF w B v l) (hr : Rdr w rb s) : ¬ v.ownBlock = some rb := by
 obtain ⟨_, a, cap, hb, _⟩ := hr
 exact h.apart hb (by decide)
theorem OwnB.rdr {w w' : World} {B rb : Nat} {v : Value} {l : List UInt8} {s : RS} (h : OwnB w B v l) (hr : Rdr w rb s) (hM : Mod (fun j => j = rb) w w') : OwnB w' B v l := by
 obtain ⟨_, a, cap, hb, _⟩ := hr
 exact h.kept hM (fun g hg e => h.hapart hb (by decide) (by rw [hg, e]))
theorem OwnB.fput {w w' : World} {B fb : Nat} {v : Value} {l : List UInt8} {C : Array Value} (h : OwnB w B v l) (hb : Blk w fb C 39) (hM : Mod (fun j => j = fb) w w') : OwnB w' B v l :=
 h.kept hM (fun g hg e => h.hapart hb (by decide) (by rw [hg, e]))
theorem URd.step {w0 w w' : World} {rb : Nat} {v : Value} {l : List Fd} {s s' : RS} (h : URd w0 w rb v l s) (hr : Rdr w' rb s') (hM : Mod (fun j => j = rb) w w') : URd w0 w' rb v l s' :=
 ⟨hr, h.own.kept hM (fun g hg e => h.own.rdr_apart h.rd (by rw [hg, e])), h.mod.trans' hM (fun i hi e => by have := h.base; omega), h.base⟩
theorem URd.still {w0 w w' : World} {rb : Nat} {v : Value} {l : List Fd} {s : RS} (h : URd w0 w rb v l s) (hM : Mod (fun _ => False) w w') : URd w0 w' rb v l s :=
 ⟨h.rd.kept hM (fun _ _ h => h), h.own.kept hM (fun _ _ h => h), h.mod.trans hM, h.base⟩
theorem URd.put {w0 w w' : World} {rb fb : Nat} {v : Value} {l : List Fd} {s : RS} {C : Array Value} (h : URd w0 w rb v l s) (hb : Blk w fb C 39) (hne : ∀ g, v.ownBlock = some g → g < fb) (hM : Mod (fun j => j = fb) w w') (h0 : w0.heap.size ≤ fb) : URd w0 w' rb v l s :=
 ⟨hM.rdr h.rd (fun e => rdr_ne h.rd hb (by decide) e.symm) (fun b cs hb' e => hb.ne hb' (by decide) e.symm), h.own.kept hM (fun g hg e => by have := hne g hg; omega), h.mod.trans' hM (fun i hi e => by omega), h.base⟩
theorem URd.app {w0 w w' : World} {rb : Nat} {v v2 : Value} {l l2 : List Fd} {s : RS} (h : URd w0 w rb v l s) (hg : w.grownBy w' v.ownBlock) (ho : OwnF w' w0.heap.size v2 l2) : URd w0 w' rb v2 l2 s := by
 have hM : Mod (fun j => v.ownBlock = some j) w w' := (Mod.refl _ _).grown hg (fun k hk _ => hk)
 exact ⟨hM.rdr h.rd (h.own.rdr_apart h.rd) (fun b cs hb => h.own.apart hb (by decide)), ho, h.mod.trans' hM (fun i hi e => by have := (World.ownsRow.lt h.own i e).1; omega), h.base⟩
theorem URd.lt {w0 w : World} {rb : Nat} {v : Value} {l : List Fd} {s : RS} (h : URd w0 w rb v l s) : ∀ g, v.ownBlock = some g → g < w.heap.size := fun g hg => (World.ownsRow.lt h.own g hg).2
theorem unpack_step {n : Nat} {acc : List Fd} {s s1 s2 s3 s4 s5 : RS} {c : UInt8} {ia ib : Nat} {nm vl : List UInt8} (hs : s.l ≠ []) (h1 : s.byte = (c, s1)) (h2 : s1.int = (ia, s2)) (h3 : s2.bytes ia = (nm, s3)) (h4 : s3.int = (ib, s4)) (h5 : s4.bytes ib = (vl, s5)) :
  unpackL (n + 1) acc s = if c ≠ 32 then ([], 3) else if s5.e ≠ 0 then ([], s5.e) else if fieldsB (acc ++ [⟨nm, vl⟩]) = false then ([], 3) else unpackL n (acc ++ [⟨nm, vl⟩]) s5 := by
 show (if s.l = [] then _ else _) = _
 rw [if_neg hs, h1]
 simp only [h2, h3, h4, h5]
theorem unpack_nil {n : Nat} {acc : List Fd} {s : RS} (hs : s.l = []) : unpackL (n + 1) acc s = (acc, 0) := by
 show (if s.l = [] then _ else _) = _
 rw [if_pos hs]
end Go.Proofs.YtahgidkpjmecdaaGreatDoor
set_option maxRecDepth 100000
namespace Go.Proofs.YtahgidkpjmecdaaGreatDoor
open Go.RowKit Go.Maps
def evL (e : Ev) (vf vb : Value) : List Value := [.int .i64 e.k, .int .u64 (e.id : Int), vf, vb, .int .u64 (e.c : Int)]
def evC (e : Ev) (vf vb : Value) : Array Value := (evL e vf vb).toArray
theorem infoEv : (Tryz.prog.info? 51).map (fun i => (i.zero, i.size, i.bytes)) = some (some (.agg (evC ⟨0, 0, [], [], 0⟩ (.slice none 0 0) (.slice none 0 0))), 5, 72) := by kernel_rfl
def EvI (w : World) (B : Nat) (X : Nat → Prop) (e : Ev) (cs : List Value) : Prop := ∃ vf vb, cs = evL e vf vb ∧ OwnF w B vf e.f ∧ OwnB w B vb e.b ∧ (∀ g, vf.ownBlock = some g → X g) ∧ (∀ g, vb.ownBlock = some g → X g)
theorem row_lies {w : World} {B n s : Nat} {v : Value} {e : TypeId} {xs : List Value} (h : w.ownsRow B e s v n xs) {g : Nat} (hg : v.ownBlock = some g) : B ≤ g ∧ ∃ C, Blk w g C e := by
 rcases h.2 with ⟨rfl, _⟩ | ⟨g', cap, cur, rfl, hb, hgg, _⟩
 ·simp [Value.ownBlock] at hg
 ·simp [Value.ownBlock] at hg; subst hg
  exact ⟨hb, cur, hgg⟩
section
variable {Y : Nat → Prop} {w w' : World} {B B' : Nat} {X X' : Nat → Prop} {e : Ev} {cs : List Value} {v : Value} {l : List Ev}
theorem EvI.kept (h : EvI w B X e cs) (hM : Mod Y w w') (hS : ∀ b C T, Blk w b C T → T ≠ 51 → X b → ¬ Y b) : EvI w' B X e cs := by
 obtain ⟨vf, vb, h1, h2, h3, h4, h5⟩ := h
 refine ⟨vf, vb, h1, hM.own h2 (fun g hg => ?_), hM.own h3 (fun g hg => ?_), h4, h5⟩
 ·obtain ⟨hb, C, hC⟩ := row_lies h2 hg
  exact hS _ _ _ hC (by decide) (h4 g hg)
 ·obtain ⟨hb, C, hC⟩ := row_lies h3 hg
  exact hS _ _ _ hC (by decide) (h5 g hg)
theorem EvI.more (h : EvI w B X e cs) (hX : ∀ k, X k → X' k) : EvI w B X' e cs := by
 obtain ⟨vf, vb, h1, h2, h3, h4, h5⟩ := h
 exact ⟨vf, vb, h1, h2, h3, fun g hg => hX _ (h4 g hg), fun g hg => hX _ (h5 g hg)⟩
theorem EvI.len (h : EvI w B X e cs) : cs.length = 5 := by
 obtain ⟨vf, vb, rfl, _⟩ := h
 rfl
theorem EvI.one (h : EvI w B X e cs) : ∀ u ∈ cs, u.oneCell' = true := by
 obtain ⟨vf, vb, rfl, h2, h3, _⟩ := h
 obtain ⟨fa, fc, rfl, _⟩ := fld_val h2.fldv
 obtain ⟨da, dc, rfl, _⟩ := Sl.val h3.byts
 intro u hu
 simp only [evL, List.mem_cons, List.not_mem_nil, or_false] at hu
 rcases hu with rfl | rfl | rfl | rfl | rfl <;> rfl
def EvsI (w : World) (B : Nat) (X : Nat → Prop) : List Ev → List (List Value) → Prop
 | [], css => css = []
 | f :: l, css => ∃ c cs, css = c :: cs ∧ EvI w B X f c ∧ EvsI w B X l cs
theorem EvsI.kept (hM : Mod Y w w') (hS : ∀ b C T, Blk w b C T → T ≠ 51 → X b → ¬ Y b) : ∀ {l : List Ev} {css : List (List Value)}, EvsI w B X l css → EvsI w' B X l css
 | [], _, h => h
 | _ :: _, _, ⟨c, cs, h1, h2, h3⟩ => ⟨c, cs, h1, h2.kept hM hS, h3.kept hM hS⟩
theorem EvsI.more (hX : ∀ k, X k → X' k) : ∀ {l : List Ev} {css : List (List Value)}, EvsI w B X l css → EvsI w B X' l css
 | [], _, h => h
 | _ :: _, _, ⟨c, cs, h1, h2, h3⟩ => ⟨c, cs, h1, h2.more hX, h3.more hX⟩
theorem EvsI.snoc : ∀ {l : List Ev} {css : List (List Value)} {f : Ev} {c : List Value}, EvsI w B X l css → EvI w B X f c → EvsI w B X (l ++ [f]) (css ++ [c])
 | [], _, f, c, h, hc => by
  have : _ = [] := h
  subst this
  exact ⟨c, [], rfl, hc, rfl⟩
 | g :: l, _, f, c, ⟨d, cs, h1, h2, h3⟩, hc => by
  subst h1
  exact ⟨d, cs ++ [c], rfl, h2, h3.snoc hc⟩
theorem EvsI.at : ∀ {l : List Ev} {css : List (List Value)} {i : Nat} {f : Ev}, EvsI w B X l css → l[i]? = some f → ∃ c, EvI w B X f c ∧ ∀ j, j < 5 → css.flatten[i * 5 + j]? = c[j]?
 | [], _, i, f, _, hi => by simp at hi
 | g :: l, _, 0, f, ⟨d, cs, h1, h2, h3⟩, hi => by
  subst h1
  simp at hi
  subst hi
  refine ⟨d, h2, fun j hj => ?_⟩
  rw [List.flatten_cons, List.getElem?_append_left (by rw [h2.len]; omega)]
  congr 1
  omega
 | g :: l, _, i + 1, f, ⟨d, cs, h1, h2, h3⟩, hi => by
  subst h1
  obtain ⟨c, hc, he⟩ := h3.at (i := i) (f := f) (by simpa using hi)
  refine ⟨c, hc, fun j hj => ?_⟩
  rw [List.flatten_cons, List.getElem?_append_right (by rw [h2.len]; omega), h2.len, ← he j hj]
  congr 1
  omega
def OwnEI (w : World) (B : Nat) (X : Nat → Prop) (v : Value) (l : List Ev) : Prop := (∃ css, EvsI w B X l css ∧ w.ownsRow B 51 5 v l.length css.flatten) ∧ (∀ g, v.ownBlock = some g → X g)
theorem OwnEI.nil (w : World) (B : Nat) (X : Nat → Prop) : OwnEI w B X (.slice none 0 0) [] := ⟨⟨[], rfl, World.ownsRow_nil _ _ _ _⟩, fun g h => by simp [Value.ownBlock] at h⟩
theorem OwnEI.more (h : OwnEI w B X v l) (hX : ∀ k, X k → X' k) : OwnEI w B X' v l := by
 obtain ⟨⟨css, h1, h2⟩, h3⟩ := h
 exact ⟨⟨css, h1.more hX, h2⟩, fun g hg => hX _ (h3 g hg)⟩
theorem OwnEI.kept (h : OwnEI w B X v l) (hM : Mod Y w w') (hS : ∀ b, X b → ¬ Y b) : OwnEI w' B X v l := by
 obtain ⟨⟨css, h1, h2⟩, h3⟩ := h
 exact ⟨⟨css, h1.kept hM (fun b _ _ _ _ hb => hS b hb), hM.own h2 (fun g hg => hS g (h3 g hg))⟩, h3⟩
theorem OwnEI.still (h : OwnEI w B X v l) (hM : Mod (fun _ => False) w w') : OwnEI w' B X v l := h.kept hM (fun _ _ h => h)
theorem OwnEI.val (h : OwnEI w B X v l) : ∃ a cap, v = .slice a l.length cap := by
 obtain ⟨⟨css, _, h2⟩, _⟩ := h
 obtain ⟨a, cap, e, _⟩ := Sl.val (Sl.ofOwn h2)
 exact ⟨a, cap, e⟩
theorem OwnEI.at {i n cap : Nat} {a : Option Addr} (h : OwnEI w B X (.slice a n cap) l) (hi : l[i]? = some e) : ∃ g c, a = some ⟨g, 0, none⟩ ∧ EvI w B X e c ∧ w.rangeAt g (i * 5) c := by
 obtain ⟨⟨css, h1, h2⟩, h3⟩ := h
 have hlt := (List.getElem?_eq_some_iff.1 hi).1
 obtain ⟨c, hc, he⟩ := h1.at hi
 rcases h2.2 with ⟨e, h0⟩ | ⟨g, cap', cur, e, _⟩
 ·omega
 ·have hn : n = l.length := by simp at e; exact e.2.1
  subst hn
  obtain rfl : a = some ⟨g, 0, none⟩ := by simpa using And.left (by simpa using e)
  refine ⟨g, c, rfl, hc, fun j u hu => ?_⟩
  have hj : j < 5 := by rw [← hc.len]; exact (List.getElem?_eq_some_iff.1 hu).1
  have := World.ownsRow.cellAt h2 (i * 5 + j) (by omega)
  rw [this, he j hj, hu]
theorem OwnEI.apart {b : Nat} {C : Array Value} {T : TypeId} (h : OwnEI w B X v l) (hb : Blk w b C T) (ht : T ≠ 51) : ¬ v.ownBlock = some b := by
 obtain ⟨⟨css, _, h2⟩, _⟩ := h
 intro e
 obtain ⟨_, C2, hC2⟩ := row_lies h2 e
 exact Blk.ne hb hC2 ht rfl
theorem OwnEI.grown (hf : EvI w B X e cs) (hg : w.grownBy w' v.ownBlock) {v' : Value} {css : List (List Value)} (h1 : EvsI w B X l css) (h2 : w.ownsRow B 51 5 v l.length css.flatten) (ho : w'.ownsRow B 51 5 v' (l.length + 1) (css.flatten ++ cs)) (hat : ∀ k, v'.ownBlock = some k → X k) : OwnEI w' B X v' (l ++ [e]) := by
 have hM : Mod (fun j => v.ownBlock = some j) w w' := (Mod.refl (fun j => v.ownBlock = some j) _).grown hg (fun k hk _ => hk)
 have hS : ∀ b C T, Blk w b C T → T ≠ 51 → X b → ¬ v.ownBlock = some b := fun b C T hb hT _ e => by
  obtain ⟨_, C2, hC2⟩ := row_lies h2 e
  exact Blk.ne hb hC2 hT rfl
 exact ⟨⟨css ++ [cs], (h1.kept hM hS).snoc (hf.kept hM hS), by simpa using ho⟩, hat⟩
theorem OwnEI.append (h : OwnEI w B X v l) {sv : Value} (hsl : Sl w 5 sv 1 cs) (hf : EvI w B X e cs) (hX : ∀ k, w.heap.size ≤ k → X k) (hn : l.length ≤ 100000) (hB : B ≤ w.heap.size) (ty : TypeId) :
  ∃ a c w', (Builtin.append_ #[48, 48] ty #[v, sv]).run Tryz.prog w = .ok (.slice a (l.length + 1) c) w' ∧ OwnEI w' B X (.slice a (l.length + 1) c) (l ++ [e]) ∧ w.grownBy w' v.ownBlock ∧ ((Value.slice a (l.length + 1) c).ownBlock = v.ownBlock ∨ (Value.slice a (l.length + 1) c).ownBlock = some w.heap.size) := by
 obtain ⟨⟨css, h1, h2⟩, h3⟩ := h
 obtain ⟨i0, hi, hz0, hz1, hz2⟩ := info_parts infoEv
 obtain ⟨hl1, ad, c0, rfl, e1, e2, e3, e4⟩ := hsl
 have hl5 := hf.len
 cases ad with
 | none =>
  have := e3 rfl
  omega
 | some ad =>
  obtain ⟨v', w', hr, ho, hg, -, hat⟩ := run_append_own_at (P := Tryz.prog) w B 48 ty 51 i0 _ 5 72 Tryz.underlying48 hi hz0 hz1 hz2 rfl (by decide) v l.length css.flatten h2 ad 1 c0 cs (by omega) (fun j u hu => by
   obtain ⟨b, off, he, hc⟩ := e4 j u hu
   simp at he; subst he
   rw [Addr.add_lit]; exact hc) hf.one (by unfold maxLen; omega) (by omega) hB
  obtain ⟨ap, cp, rfl, _⟩ := Sl.val (Sl.ofOwn ho)
  refine ⟨ap, cp, w', hr, OwnEI.grown hf hg h1 h2 ho (fun k hk => ?_), hg, hat⟩
  rcases hat with e | e
  ·rw [e] at hk; exact h3 k hk
  ·rw [e] at hk; cases hk; exact hX _ (Nat.le_refl _)
end
theorem ev_lit (w : World) {f : Ev} {vf vb : Value} : Sl (w.alloc (.cells (evC f vf vb) 51)) 5 (.slice (some ⟨w.heap.size, 0, none⟩) 1 1) 1 (evL f vf vb) := by
 have hb := Blk.new w (evC f vf vb) 51
 refine ⟨rfl, some ⟨w.heap.size, 0, none⟩, 1, rfl, Nat.le_refl _, by decide, fun e => by simp at e, fun j u hu => ⟨w.heap.size, 0, rfl, ?_⟩⟩
 rw [Nat.zero_add]
 exact hb.cellAt j (by simpa [evC] using hu)
def evsTh (B : Nat) (X : Nat → Prop) (v : Value) (L : List Ev) : Th := ⟨fun w => OwnEI w B X v L, X, fun _ _ _ h hM hS => h.kept hM hS⟩
theorem Side.app {B : Nat} {w : World} {m : List Th} : ∀ {l : List Th}, Side B w (l ++ m) ↔ Side B w l ∧ Side B w m ∧ ∀ o ∈ l, ∀ p ∈ m, Apart o p
 | [] => ⟨fun h => ⟨trivial, h, fun o ho => by cases ho⟩, fun h => h.2.1⟩
 | x :: l => by
  constructor
  ·rintro ⟨h1, h2, h3⟩
   obtain ⟨a, b, c⟩ := Side.app.1 h3
   refine ⟨⟨h1, fun p hp => h2 p (List.mem_append_left _ hp), a⟩, b, fun o ho p hp => ?_⟩
   rcases List.mem_cons.1 ho with rfl | ho
   ·exact h2 p (List.mem_append_right _ hp)
   ·exact c o ho p hp
  ·rintro ⟨⟨h1, h2, h3⟩, b, c⟩
   refine ⟨h1, fun p hp => ?_, Side.app.2 ⟨h3, b, fun o ho p hp => c o (List.mem_cons_of_mem _ ho) p hp⟩⟩
   rcases List.mem_append.1 hp with hp | hp
   ·exact h2 p hp
   ·exact c x List.mem_cons_self p hp
theorem Side.of {B : Nat} {w : World} : ∀ {l : List Th}, (∀ o ∈ l, Fits B w o) → l.Pairwise Apart → Side B w l
 | [], _, _ => trivial
 | x :: _, h1, h2 => ⟨h1 x List.mem_cons_self, (List.pairwise_cons.1 h2).1, Side.of (fun o ho => h1 o (List.mem_cons_of_mem _ ho)) (List.pairwise_cons.1 h2).2⟩
theorem At.change {W w w' : World} {l1 : List Th} (l2 : List Th) {m : List Th} (h : At W w (l1 ++ m)) (hM : Mod (fun k => ∃ o ∈ l1, o.R k) w w')
  (h2 : ∀ o ∈ l2, o.P w' ∧ ∀ k, o.R k → (∃ p ∈ l1, p.R k) ∨ (w.heap.size ≤ k ∧ k < w'.heap.size)) (hap : l2.Pairwise Apart) : At W w' (l2 ++ m) := by
 obtain ⟨a, b, c⟩ := Side.app.1 h.1
 have hm : ∀ k, (∃ o ∈ l1, o.R k) → W.heap.size ≤ k ∧ k < w.heap.size := fun k ⟨o, ho, hk⟩ => (a.mem o ho).2 k hk
 refine ⟨Side.app.2 ⟨Side.of (fun o ho => ⟨(h2 o ho).1, fun k hk => ?_⟩) hap, b.kept hM (fun p hp k hk ⟨o, ho, hk2⟩ => c o ho p hp k hk2 hk), fun o ho p hp k hk hk2 => ?_⟩, h.2.trans (hM.mono (fun k _ hk => (hm k hk).1))⟩
 ·rcases (h2 o ho).2 k hk with e | e
  ·exact ⟨(hm k e).1, Nat.lt_of_lt_of_le (hm k e).2 hM.size⟩
  ·exact ⟨Nat.le_trans h.le e.1, e.2⟩
 ·rcases (h2 o ho).2 k hk with ⟨q, hq, e⟩ | e
  ·exact c q hq p hp k e hk2
  ·have := ((b.mem p hp).2 k hk2).2
   omega
end Go.Proofs.YtahgidkpjmecdaaGreatDoor
