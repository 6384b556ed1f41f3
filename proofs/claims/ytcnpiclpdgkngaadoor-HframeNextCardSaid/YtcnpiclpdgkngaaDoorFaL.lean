/- The program's Next: a frame of a kind that is known. (printed by genfal.py) -/
import Derived.Test.YtcnpiclpdgkngaaDoorFaK
namespace Go.Proofs.YtcnpiclpdgkngaaDoor
open Go.RowKit

theorem size26f (f : HF) (vs vd : Value) : (Tryd.prog.info? 26).map (·.size) = some (hfC f vs vd).size := by show _ = some 4; kernel_rfl
theorem hfC_one {w : World} {f : HF} {vs vd : Value} (h : HFV w f vs vd) : ∀ v ∈ (hfC f vs vd).toList, v.oneCell' = true := by
  obtain ⟨sa, sc, rfl, _⟩ := set_val h.st
  obtain ⟨da, dc, rfl, _⟩ := byts_val h.d
  intro v hv
  simp [hfC] at hv
  rcases hv with rfl | rfl | rfl | rfl <;> rfl
theorem nextE_bad {k : Nat} {b : List UInt8} {n : Nat} (h : (readK k b).2.e ≠ 0 ∨ (readK k b).2.l ≠ [] ∨ rightH (readK k b).1 = false) : nextE k b n = (HF.zero, 0, 3) := by
  unfold nextE
  rw [if_pos h]
theorem nextE_ok {k : Nat} {b : List UInt8} {n : Nat} (h1 : (readK k b).2.e = 0) (h2 : (readK k b).2.l = []) (h3 : rightH (readK k b).1 = true) : nextE k b n = ((readK k b).1, n, 0) := by
  unfold nextE
  rw [if_neg]
  rintro (h | h | h)
  · exact h h1
  · exact h h2
  · rw [h3] at h; cases h
/-- The state behind a kind's function. -/
structure NxK (w0 w : World) (rb : Nat) (f : HF) (vs vd : Value) (s : RS) : Prop where
  res : Blk w w0.heap.size zC 26
  fr : Blk w (w0.heap.size + 1) (hfC f vs vd) 26
  rd : Rdr w rb s
  val : ∃ B, w0.heap.size + 2 ≤ B ∧ HFO w B f vs vd
  mod : Mod (fun _ => False) w0 w
theorem NxK.hfv {w0 w : World} {rb : Nat} {f : HF} {vs vd : Value} {s : RS} (h : NxK w0 w rb f vs vd s) : HFV w f vs vd := by
  obtain ⟨_, _, h⟩ := h.val
  exact h.val
theorem NxK.res_hfv {w0 w wz : World} {rb : Nat} {f : HF} {vs vd : Value} {s : RS} (h : NxK w0 w rb f vs vd s) (hM : Mod (fun k => k = w0.heap.size) w wz) : HFV wz f vs vd := by
  obtain ⟨B, hB, h⟩ := h.val
  exact (h.kept hM (fun k hk => by omega)).val
theorem NxK.toF {w0 w w' : World} {rb : Nat} {f : HF} {vs vd : Value} {s : RS} (h : NxK w0 w rb f vs vd s) (hM : Mod (fun _ => False) w w') : NxK w0 w' rb f vs vd s :=
  ⟨hM.blk h.res (fun h => h), hM.blk h.fr (fun h => h), h.rd.kept hM (fun _ _ h => h), (by obtain ⟨B, hB, hv⟩ := h.val; exact ⟨B, hB, hv.kept hM (fun _ h => h.elim)⟩), h.mod.trans hM⟩
theorem NxK.cells {w0 w : World} {rb : Nat} {f : HF} {vs vd : Value} {s : RS} (h : NxK w0 w rb f vs vd s) : w.cell? ⟨w0.heap.size + 1, 0, none⟩ = some (.int .i64 f.k) ∧ w.cell? ⟨w0.heap.size + 1, 1, none⟩ = some (.int .u64 (f.id : Int)) ∧ w.cell? ⟨w0.heap.size + 1, 2, none⟩ = some vs ∧ w.cell? ⟨w0.heap.size + 1, 3, none⟩ = some vd :=
  ⟨h.fr.cellAt 0 rfl, h.fr.cellAt 1 rfl, h.fr.cellAt 2 rfl, h.fr.cellAt 3 rfl⟩
set_option maxHeartbeats 4000000 in
set_option maxRecDepth 10000 in
theorem next_kind {w : World} {v : Value} {b : List UInt8} (h : Byts w v b) (hl : (b.length : Int) ≤ 100000) (h1 : (RS.int ⟨b, 0⟩).2.e = 0) (ho : isOld (RS.int ⟨b, 0⟩).1 = false) (h3 : ((RS.int ⟨b, 0⟩).2.int.2.bytes (RS.int ⟨b, 0⟩).2.int.1).2.e = 0) (hk : isKind (RS.int ⟨b, 0⟩).1 = true) (fn1 fn2 : Nat) (hkf : kindsF ((RS.int ⟨b, 0⟩).1 : Int) = some (pairV fn1 fn2)) (hrd : KReads fn2 (RS.int ⟨b, 0⟩).1) (eg : ∀ args w, (callFunc fn2 args).run Tryd.prog w = .ok (.enter fn2 args) w) : Calls Tryd.prog 19 #[v] w (NextR w (nextL b)) := by
  obtain ⟨R, hR⟩ : ∃ x, x = nextL b := ⟨_, rfl⟩
  rw [← hR]
  have HRR : Hid (R = nextE (RS.int ⟨b, 0⟩).1 ((RS.int ⟨b, 0⟩).2.int.2.bytes (RS.int ⟨b, 0⟩).2.int.1).1 (b.length - ((RS.int ⟨b, 0⟩).2.int.2.bytes (RS.int ⟨b, 0⟩).2.int.1).2.l.length)) := hR.trans (nextL_kind ho h3 hk)
  clear hR
  have H := Lib.hid h
  have HL := Lib.hid hl
  obtain ⟨a, cap, rfl, _⟩ := byts_val h
  obtain ⟨bl, hbl⟩ : ∃ x, x = b.length := ⟨_, rfl⟩
  rw [← hbl] at HL ⊢
  have HBL := Lib.hid hbl
  clear h hl hbl
  have HKF := Lib.hid hkf
  have HRD := Lib.hid hrd
  have HBODY : Hid ((((RS.int ⟨b, 0⟩).2.int.2.bytes (RS.int ⟨b, 0⟩).2.int.1).1.length : Int) ≤ 100000) := by
    show _ ≤ _
    have i1 := int_len ⟨b, 0⟩
    have i2 := int_len (RS.int ⟨b, 0⟩).2
    have i3 := (bytes_len (RS.int ⟨b, 0⟩).2.int.2 (RS.int ⟨b, 0⟩).2.int.1).2
    have := HL.out
    have := HBL.out
    simp only at i1
    omega
  clear hkf hrd
  have HB3 := Lib.hid h3
  have HLL : Hid (((RS.int ⟨b, 0⟩).2.int.2.bytes (RS.int ⟨b, 0⟩).2.int.1).2.l.length ≤ b.length) := by
    show _ ≤ _
    have i1 := int_len ⟨b, 0⟩
    have i2 := int_len (RS.int ⟨b, 0⟩).2
    have i3 := (bytes_len (RS.int ⟨b, 0⟩).2.int.2 (RS.int ⟨b, 0⟩).2.int.1).1
    simp only at i1
    omega
  clear h3
  go_enter Tryd.func19, Tryd.ntmps19
  go_wp2_with fail
  have hM0 : Mod (fun _ => False) w ((w.alloc (.cells zC 26)).alloc (.cells zC 26)) := ((Mod.refl _ w).alloc _).alloc _
  rw [HBL.out]
  refine (read_any (byts_kept H.out hM0) (by have := HL.out; have := HBL.out; omega)).mono ?_
  rintro e w1 ⟨rb, rfl, hrb, hr, hM1⟩
  rw [← HBL.out]
  have HS : Hid (NxS w w1 rb ⟨b, 0⟩) := ⟨hM1.blk ((Blk.new w zC _).alloc _) (fun h => h), hM1.blk (by have := Blk.new (w.alloc (.cells zC 26)) zC 26; rwa [show (w.alloc (.cells zC 26)).heap.size = w.heap.size + 1 by simp] at this) (fun h => h), hr, by simpa using hrb, hM0.trans hM1⟩
  clear hM0 hM1 hr hrb
  go_wp2_with fail
  refine (int_any HS.out.rd).mono ?_
  rintro e w2 ⟨rfl, hr, hM⟩
  have HS2 := Lib.hid (HS.out.toR hM hr)
  clear hr hM HS
  have HS := HS2
  clear HS2
  generalize RS.int ⟨b, 0⟩ = R1 at *
  obtain ⟨t, s1⟩ := R1
  simp only at *
  have ht : (s1.e == 0) = true := by simpa using h1
  have hz : ¬ (t : Int) = 2 ∧ ¬ (t : Int) = 6 ∧ ¬ (t : Int) = 8 ∧ ¬ (t : Int) = 9 := by
    unfold isOld at ho
    simp only [Bool.or_eq_false_iff, decide_eq_false_iff_not] at ho
    omega
  have t2 : ((t : Int) == 2) = false := by simpa using hz.1
  have t6 : ((t : Int) == 6) = false := by simpa using hz.2.1
  have t8 : ((t : Int) == 8) = false := by simpa using hz.2.2.1
  have t9 : ((t : Int) == 9) = false := by simpa using hz.2.2.2
  clear h1 ho hz
  have hz13 : (t : Int) ≤ 13 := by
    unfold isKind isData isId at hk
    simp only [Bool.or_eq_true, decide_eq_true_eq] at hk
    omega
  have hzd : decide ((13 : Int) < (t : Int)) = false := decide_eq_false (by omega)
  have hwz : IntKind.i64.wrap (t : Int) = (t : Int) := IntWalk.i64_in _ (by omega)
  have HOK := Lib.hid (okKey_small (z := (t : Int)) (by omega) (by omega))
  have HTT : Hid (∀ (X : World) (fb : Nat), Blk X fb #[.int .i64 (t : Int), .int .u64 0, .slice none 0 0, .slice none 0 0] 26 → Blk X fb (hfC ⟨(t : Int), 0, [], []⟩ (.slice none 0 0) (.slice none 0 0)) 26) := fun X fb h => h
  clear hk hz13
  generalize hzt : (t : Int) = z at *
  have HZT := Lib.hid hzt
  clear hzt
  go_wp2_with (first
    | (go_at_call 35; refine (bad_any HS.out.rd).mono ?_; rintro e w' ⟨rfl, rfl⟩)
    | fail)
  refine (int_any HS.out.rd).mono ?_
  rintro e w3 ⟨rfl, hr, hM⟩
  have HS2 := Lib.hid (HS.out.toR hM hr)
  clear hr hM HS
  have HS := HS2
  clear HS2
  go_wp2_with fail
  refine (bytes_any s1.int.1 HS.out.rd).mono ?_
  rintro e w4 ⟨vb, rfl, hob, hr, hM⟩
  have HS2 := Lib.hid (HS.out.toR hM hr)
  clear hr hM HS
  have HS := HS2
  clear HS2
  obtain ⟨ba, bc, rfl, _⟩ := byts_val hob.byts
  have HOB := Lib.hid hob
  clear hob
  generalize s1.int = R2 at *
  generalize R2.2.bytes R2.1 = R3 at *
  have ht3 : (R3.2.e != 0) = false := by simpa using HB3.out
  have hobl : R3.1.length = R3.1.length := rfl
  generalize hnb : R3.1.length = nb at *
  rw [← HBL.out] at HLL HRR
  have hnn : IntKind.i64.wrap ((bl : Int) - (R3.2.l.length : Int)) = ((bl - R3.2.l.length : Nat) : Int) := by have := HLL.out; have := HL.out; rw [IntWalk.i64_in _ (by omega)]; omega
  generalize bl - R3.2.l.length = nn at *
  have HNB := Lib.hid hnb
  clear hnb hobl
  go_wp2_with (first
    | (go_at_call 35; refine (bad_any HS.out.rd).mono ?_; rintro e w' ⟨rfl, rfl⟩)
    | (go_at_call 37; refine (left_any HS.out.rd).mono ?_; rintro e w' ⟨rfl, rfl⟩)
    | fail)
  refine (kinds_any _).mono ?_
  rintro e w5 ⟨mb, rfl, hV, hk5⟩
  have HS2 := Lib.hid (HS.out.toF hk5)
  have HOB2 := Lib.hid (byts_kept HOB.out.byts hk5)
  clear HS hk5 HOB
  have HS := HS2
  have HOB := HOB2
  clear HS2 HOB2
  have hn5 : ¬ w5.heap.size = w.heap.size + 1 := by have := HS.out.lo; have := HS.out.rd.lt; omega
  have hn5' : ¬ w.heap.size + 1 = w5.heap.size := fun h => hn5 h.symm
  have hlk := hV.look2 (t := 56) (e := 55) HOK.out Tryd.underlying56 (zero_kind w5)
  rw [HKF.out] at hlk
  simp only [Option.getD_some, Option.isSome_some] at hlk
  clear hV
  go_wp2_with (first
    | ((with_reducible refine wpList_store_blk ?_ 55 (.tmp 10) (.tmp 59) ?_ w5.heap.size ?_ #[.nilFunc, .nilFunc] #[fnV fn1, fnV fn2] ?_ 55 (Blk.new _ _ _) (size55 _ _) ?_ ?_ ?_); (· exact rfl); (· exact rfl); (· exact rfl); (· exact rfl); (· exact rfl); (· intro v hv; simp at hv; rcases hv with rfl | rfl <;> rfl); intro w6 hB6 hM6; have hm6 : Mod (fun _ => False) w5 w6 := ((Mod.refl (fun _ => False) w5).alloc _).trans' hM6 (fun i hi e => by omega); have HX := Lib.hid (HS.out.toF hm6); have HOB2 := Lib.hid (byts_kept HOB.out hm6); clear HOB; have HOB := HOB2; clear HOB2; clear hM6 hm6 HS; have HS := HX; clear HX)
    | fail)
  refine (read_any HOB.out (by have := HBODY.out; have := HNB.out; omega)).mono ?_
  rintro e w7 ⟨xb, rfl, hxb, hrx, hk7⟩
  have HS7 := Lib.hid (HS.out.toF hk7)
  have hl7 := HS.out.lo
  have hr7 := HS.out.rd.lt
  have hb7 := hk7.blk hB6 (fun h => h)
  have hp7 : w7.cell? ⟨w5.heap.size, 1, none⟩ = some (.func (.func fn2) #[] #[]) := hb7.cellAt 1 rfl
  have hc7 : w7.cell? ⟨w.heap.size + 1, 0, none⟩ = some (.int .i64 0) := HS7.out.f.cellAt 0 rfl
  have hz7 := HS7.out.f.free 0
  have HLX : Hid (w6.heap.size ≤ xb) := hxb
  have HL6 : Hid (w.heap.size + 2 ≤ w6.heap.size) := by show _ ≤ _; omega
  clear hl7 hr7 hb7 hB6 hk7 hxb HS hlk
  have hrS := rdr_set (p := ⟨w.heap.size + 1, 0, none⟩) (v := .int .i64 z) hrx HS7.out.f rfl
  have hfS : Blk (w7.setCell ⟨w.heap.size + 1, 0, none⟩ (.int .i64 z)) (w.heap.size + 1) (hfC ⟨(t : Int), 0, [], []⟩ (.slice none 0 0) (.slice none 0 0)) 26 := by
    rw [HZT.out]
    exact HTT.out _ _ (HS7.out.f.set 0 _)
  have hgS : Blk (w7.setCell ⟨w.heap.size + 1, 0, none⟩ (.int .i64 z)) w.heap.size zC 26 := HS7.out.res.setOther (by simp) _
  have hmS : Mod (fun _ => False) w (w7.setCell ⟨w.heap.size + 1, 0, none⟩ (.int .i64 z)) := HS7.out.mod.setCell (fun h => by simp at h; omega) _
  have hL9 : Hid (w.heap.size + 2 ≤ w7.heap.size) := by show _ ≤ _; have := hrx.lt; have := HLX.out; have := HL6.out; omega
  have HRS := Lib.hid hrS
  have HFS := Lib.hid hfS
  have HGS := Lib.hid hgS
  have HMS := Lib.hid hmS
  clear hrS hfS hgS hmS hrx HS7
  go_wp2_with fail
  refine (HRD.out _ xb (w.heap.size + 1) R3.1 (by have := HBODY.out; have := HNB.out; omega) HRS.out HFS.out).mono ?_
  rintro e w8 ⟨rfl, vs, vd, hV8, hf8, hr8, hM8⟩
  have HK : Hid (NxK w w8 xb (readK t R3.1).1 vs vd (readK t R3.1).2) := ⟨hM8.blk HGS.out (by have := HLX.out; have := HL6.out; omega), hf8, hr8, ⟨_, by simp; have := HLX.out; have := HL6.out; have := HMS.out.size; have h9 := hL9.out; omega, hV8⟩, HMS.out.trans' hM8 (fun i hi e => by have := HLX.out; have := HL6.out; omega)⟩
  have HE1 : Hid ((readK t R3.1).2.e ≠ 0 ∨ (readK t R3.1).2.l ≠ [] ∨ rightH (readK t R3.1).1 = false → R = (HF.zero, 0, 3)) := fun h => HRR.out.trans (nextE_bad h)
  have HE2 : Hid ((readK t R3.1).2.e = 0 → (readK t R3.1).2.l = [] → rightH (readK t R3.1).1 = true → R = ((readK t R3.1).1, nn, 0)) := fun h1 h2 h3 => HRR.out.trans (nextE_ok h1 h2 h3)
  clear hV8 hf8 hr8 hM8 HRS HFS HGS HMS HRD HRR hp7 hc7 hz7
  generalize readK t R3.1 = G at *
  obtain ⟨g, x⟩ := G
  simp only at HK HE1 HE2
  obtain ⟨f0, f1, f2, f3⟩ := HK.out.cells
  by_cases hxe : x.e = 0
  case neg =>
    have hxt : (x.e != 0) = true := by simpa using hxe
    have HRZ := Lib.hid (HE1.out (.inl hxe))
    clear hxe
    go_wp2_with (first
      | (go_at_call 35; refine (bad_any HK.out.rd).mono ?_; rintro e w' ⟨rfl, rfl⟩)
      | ((with_reducible refine wpList_store_blk ?_ 26 (.tmp 2) (.tmp 87) ?_ w.heap.size ?_ zC zC ?_ 26 HK.out.res size26z ?_ zC_one ?_); (· exact rfl); (· exact rfl); (· exact rfl); (· exact rfl); (· exact rfl); intro wz hBz hMz)
      | fail)
    refine bodyPost_ret (v := .tuple #[.agg zC, .int .i64 ((0 : Nat) : Int), .int .i64 3]) ?_ rfl ?_
    · exact next_run Tryd.results19 rfl rfl rfl hBz size26z
    · rw [HRZ.out]
      exact next_zero (HK.out.mod.trans' hMz (fun i hi e => by omega))
  case pos =>
    have hxt : (x.e != 0) = false := by simpa using hxe
    have HXE := Lib.hid hxe
    clear hxe
    by_cases hxl : x.l = []
    case neg =>
      have HRZ := Lib.hid (HE1.out (.inr (.inl hxl)))
      have hxd : decide ((0 : Int) < (x.l.length : Int)) = true := by
        apply decide_eq_true
        have : 0 < x.l.length := by cases h : x.l with | nil => exact absurd h hxl | cons => simp
        omega
      have hxd' : (0 : Int) < (x.l.length : Int) := of_decide_eq_true hxd
      have hleft := left_any HK.out.rd
      generalize (x.l.length : Int) = xl at *
      clear hxl
      go_wp2_with (first
        | (go_at_call 35; refine (bad_any HK.out.rd).mono ?_; rintro e w' ⟨rfl, rfl⟩)
        | (go_at_call 37; refine (hleft).mono ?_; rintro e w' ⟨rfl, rfl⟩)
        | ((with_reducible refine wpList_store_blk ?_ 26 (.tmp 2) (.tmp 87) ?_ w.heap.size ?_ zC zC ?_ 26 HK.out.res size26z ?_ zC_one ?_); (· exact rfl); (· exact rfl); (· exact rfl); (· exact rfl); (· exact rfl); intro wz hBz hMz)
        | fail)
      refine bodyPost_ret (v := .tuple #[.agg zC, .int .i64 ((0 : Nat) : Int), .int .i64 3]) ?_ rfl ?_
      · exact next_run Tryd.results19 rfl rfl rfl hBz size26z
      · rw [HRZ.out]
        exact next_zero (HK.out.mod.trans' hMz (fun i hi e => by omega))
    case pos =>
      have hleft := left_any HK.out.rd
      rw [hxl] at hleft
      have HXL := Lib.hid hxl
      clear hxl
      go_wp2_with (first
        | (go_at_call 35; refine (bad_any HK.out.rd).mono ?_; rintro e w' ⟨rfl, rfl⟩)
        | (go_at_call 37; refine (hleft).mono ?_; rintro e w' ⟨rfl, rfl⟩)
        | fail)
      refine (right_any HK.out.hfv).mono ?_
      rintro e w9 ⟨rfl, hk9⟩
      have HK2 := Lib.hid (HK.out.toF hk9)
      clear HK hk9 hleft
      have HK := HK2
      clear HK2
      cases hrg : rightH g
      · have HRZ := Lib.hid (HE1.out (.inr (.inr hrg)))
        clear hrg
        go_wp2_with (first
          | ((with_reducible refine wpList_store_blk ?_ 26 (.tmp 2) (.tmp 87) ?_ w.heap.size ?_ zC zC ?_ 26 HK.out.res size26z ?_ zC_one ?_); (· exact rfl); (· exact rfl); (· exact rfl); (· exact rfl); (· exact rfl); intro wz hBz hMz)
          | fail)
        refine bodyPost_ret (v := .tuple #[.agg zC, .int .i64 ((0 : Nat) : Int), .int .i64 3]) ?_ rfl ?_
        · exact next_run Tryd.results19 rfl rfl rfl hBz size26z
        · rw [HRZ.out]
          exact next_zero (HK.out.mod.trans' hMz (fun i hi e => by omega))
      · have HRZ := Lib.hid (HE2.out HXE.out HXL.out hrg)
        clear hrg
        go_wp2_with (first
          | ((with_reducible refine wpList_load_blk ?_ 26 (.tmp 5) ?_ (w.heap.size + 1) ?_ (hfC g vs vd) 26 _ HK.out.fr Tryd.underlying26 ?_ (size26f _ _ _) ?_); (· exact rfl); (· exact rfl); (· exact rfl); (· exact rfl))
          | ((with_reducible refine wpList_store_blk ?_ 26 (.tmp 2) (.tmp 88) ?_ w.heap.size ?_ zC (hfC g vs vd) ?_ 26 HK.out.res (size26f _ _ _) ?_ (hfC_one HK.out.hfv) ?_); (· exact rfl); (· exact rfl); (· exact rfl); (· exact rfl); (· exact rfl); intro wz hBz hMz)
          | fail)
        refine bodyPost_ret (v := .tuple #[.agg (hfC g vs vd), .int .i64 ((nn : Nat) : Int), .int .i64 0]) ?_ rfl ?_
        · exact next_run Tryd.results19 rfl rfl rfl hBz (size26 _ _ _ _)
        · rw [HRZ.out]
          exact ⟨vs, vd, rfl, HK.out.res_hfv hMz, HK.out.mod.trans' hMz (fun i hi e => by omega)⟩
end Go.Proofs.YtcnpiclpdgkngaaDoor
