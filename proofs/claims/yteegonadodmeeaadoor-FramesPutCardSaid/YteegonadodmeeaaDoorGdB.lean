/- The document's List of the same frames; the walk of the law that frames one behind the other are parsed one by one. (printed by genhdb3.py) -/
import Derived.Test.YteegonadodmeeaaDoorGdA
namespace Go.Proofs.YteegonadodmeeaaDoor
open Go.RowKit

theorem refsame_c {w : World} {f g : Fr} {vd vr ud ur : Value} {C D : Array Value} (hC : C = frC f vd vr) (hD : D = frC g ud ur) (hf : FrV w f vd vr) (hg : FrV w g ud ur) (hn : (f.rs.length : Int) ≤ 100000) (hm : (g.rs.length : Int) ≤ 100000) :
    Calls Tryd.prog 18 #[.agg C, .agg D] w fun e w' => e = .returned (.bool (sameF f g)) ∧ Mod (fun _ => False) w w' := by
  subst hC hD
  exact refsame_any hf hg hn hm
set_option maxHeartbeats 4000000 in
set_option maxRecDepth 10000 in
theorem reflist_same {w : World} {v u : Value} {l : List Fr} {n : Nat} (hn : n = l.length) (hn2 : (n : Int) ≤ 100000) (hv : FrsR w v l) (hu : FrsR w u l) (hs : ∀ f ∈ l, (f.rs.length : Int) ≤ 100000) :
    Calls Tryd.prog 21 #[v, u] w fun e w' => e = .returned (.bool true) ∧ Mod (fun _ => False) w w' := by
  have HV := Lib.hid hv
  have HU := Lib.hid hu
  have HN := Lib.hid hn
  have HS := Lib.hid hs
  obtain ⟨a, ca, rfl, hca, hcm, _⟩ := hv
  obtain ⟨b, cb, rfl, hcb, hdm, _⟩ := hu
  rw [← hn] at hca hcb HV HU ⊢
  have hnc : (n : Int) ≤ ca ∧ (n : Int) ≤ cb := by omega
  clear hn hs hca hcb hcm hdm
  go_enter Tryd.func21, Tryd.ntmps21
  go_wp2_with fail
  go_loopw [5] (fun s5 wr => ∃ k : Nat, k ≤ n ∧ s5 = .int .i64 k ∧ Hid (Mod (fun _ => False) w wr)) (fun s5 _ => n - (intOf s5).toNat)
  case atStart => exact ⟨0, Nat.zero_le _, rfl, Mod.refl _ _⟩
  case round =>
    obtain ⟨k, hk, rfl, HM⟩ := hrel
    by_cases hkn : (k : Int) < n
    · have hkl : k < l.length := by have := HN.out; omega
      have hf : l[k]? = some l[k] := List.getElem?_eq_getElem hkl
      generalize l[k] = f at hf
      have HRS : Hid ((f.rs.length : Int) ≤ 100000) := HS.out f (List.mem_of_getElem? hf)
      obtain ⟨_, _, e1, _, _, h1⟩ := HV.out
      obtain ⟨ga, oa, vd, vr, hga, hra, hva⟩ := h1 k f hf
      subst hga
      obtain ⟨_, _, e2, _, _, h2⟩ := HU.out
      obtain ⟨gb, ob, ud, ur, hgb, hrb, hvb⟩ := h2 k f hf
      subst hgb
      simp only [Value.slice.injEq] at e1 e2
      obtain ⟨rfl, -, rfl⟩ := e1
      obtain ⟨rfl, -, rfl⟩ := e2
      obtain ⟨C, hC⟩ : ∃ C, C = frC f vd vr := ⟨_, rfl⟩
      obtain ⟨D, hD⟩ : ∃ C, C = frC f ud ur := ⟨_, rfl⟩
      have HC := Lib.hid hC
      have HD := Lib.hid hD
      have HRA := Lib.hid hra
      have HRB := Lib.hid hrb
      have HVA := Lib.hid hva
      have HVB := Lib.hid hvb
      clear h1 h2 hra hrb hva hvb hC hD hf hkl
      go_wp2_with fail
      (try go_frame)
      generalize hwr : wr = W at *
      clear hwr
      refine wp_region_held_drew (S := fun X => Mod (fun _ => False) w X) (by kernel_rfl) HM.out.drew (fun hS => ?_)
      refine takeH (i := 0) (v := .slice (some ⟨ga, oa, none⟩) n ca) (some 17) rfl rfl (by kernel_rfl) (by kernel_rfl) (by kernel_rfl) (fun _ _ _ h => h) (Or.inl ⟨by rfl, fun X hX => ?_⟩) hS ?_
      · go_simp
      (try go_frame)
      refine takeH (i := 1) (v := .int .i64 (k : Int)) (some 18) rfl rfl (by kernel_rfl) (by kernel_rfl) (by kernel_rfl) (fun _ _ _ h => h) (Or.inl ⟨by rfl, fun X hX => ?_⟩) hS ?_
      · go_simp
      (try go_frame)
      refine takeH (i := 2) (v := .pointer (some ⟨ga, oa + k * 24, none⟩)) (some 19) rfl rfl (by kernel_rfl) (by kernel_rfl) (by kernel_rfl) (fun _ _ _ h => h) (Or.inl ⟨by rfl, fun X hX => ?_⟩) hS ?_
      · go_simp
      (try go_frame)
      refine takeH (i := 3) (v := .agg C) (some 20) rfl rfl (by kernel_rfl) (by kernel_rfl) (by kernel_rfl) (fun _ _ _ h => h) (Or.inl ⟨by rfl, fun X hX => ?_⟩) hS ?_
      · exact exec_load' rfl (p := .pointer (some ⟨ga, oa + k * 24, none⟩)) (by rfl) (frC_load HC.out (range_kept HRA.out hX (fun h => h)) HVA.out.t)
      (try go_frame)
      refine takeH (i := 4) (v := .slice (some ⟨gb, ob, none⟩) n cb) (some 21) rfl rfl (by kernel_rfl) (by kernel_rfl) (by kernel_rfl) (fun _ _ _ h => h) (Or.inl ⟨by rfl, fun X hX => ?_⟩) hS ?_
      · go_simp
      (try go_frame)
      refine takeH (i := 5) (v := .int .i64 (k : Int)) (some 22) rfl rfl (by kernel_rfl) (by kernel_rfl) (by kernel_rfl) (fun _ _ _ h => h) (Or.inl ⟨by rfl, fun X hX => ?_⟩) hS ?_
      · go_simp
      (try go_frame)
      refine takeH (i := 6) (v := .pointer (some ⟨gb, ob + k * 24, none⟩)) (some 23) rfl rfl (by kernel_rfl) (by kernel_rfl) (by kernel_rfl) (fun _ _ _ h => h) (Or.inl ⟨by rfl, fun X hX => ?_⟩) hS ?_
      · go_simp
      (try go_frame)
      refine takeH (i := 7) (v := .agg D) (some 24) rfl rfl (by kernel_rfl) (by kernel_rfl) (by kernel_rfl) (fun _ _ _ h => h) (Or.inl ⟨by rfl, fun X hX => ?_⟩) hS ?_
      · exact exec_load' rfl (p := .pointer (some ⟨gb, ob + k * 24, none⟩)) (by rfl) (frC_load HD.out (range_kept HRB.out hX (fun h => h)) HVB.out.t)
      (try go_frame)
      refine wpAnyH_ready (rs := [8]) (by kernel_rfl) (by simp) ?_
      refine AllReadyH.cons rfl (fun K hK => ?_) AllReadyH.nil
      go_simp
      refine (refsame_c HC.out HD.out (HVA.out.kept hS) (HVB.out.kept hS) HRS.out HRS.out).mono ?_
      rintro e X8 ⟨rfl, hk8⟩
      rw [show sameF f f = true by simp [sameF]]
      refine hK.out _ _ (hS.trans hk8) (fun hS => ?_)
      clear hK K
      refine takeH (i := 9) (v := .bool false) (some 26) rfl rfl (by kernel_rfl) (by kernel_rfl) (by kernel_rfl) (fun _ _ _ h => h) (Or.inl ⟨by rfl, fun X hX => ?_⟩) hS ?_
      · go_simp
      (try go_frame)
      refine wpAnyH_done (by kernel_rfl) ?_ _
      have HM2 := Lib.hid hS
      clear hS
      go_wp2_with fail
      go_roundw
      case rel => exact ⟨k + 1, by omega, by go_num, HM2⟩
      case measure => simp [intOf]; omega
    · have hkn' : k = n := by omega
      go_wp2_with fail
      go_ret
      exact ⟨rfl, HM.out⟩
theorem flatf_snoc {l : List Fr} {j : Nat} {f : Fr} (h : l[j]? = some f) : (l.take (j + 1)).flatMap fputL = (l.take j).flatMap fputL ++ fputL f := by
  rw [take_snoc l j f h]
  simp
/-- What the law's loop knows of the frames that it has put. -/
def GoodTo (l : List Fr) (j : Nat) : Prop := ∀ i f, i < j → l[i]? = some f → rightF f = true ∧ greatB f = false ∧ (0 < i → f.k ≠ 0)
theorem GoodTo.step {l : List Fr} {j : Nat} {f : Fr} (h : GoodTo l j) (hf : l[j]? = some f) (hr : rightF f = true) (hg : greatB f = false) (hk : 0 < j → f.k ≠ 0) : GoodTo l (j + 1) := by
  intro i g hi hg'
  by_cases e : i = j
  · subst e
    rw [hf] at hg'
    cases hg'
    exact ⟨hr, hg, hk⟩
  · exact h i g (by omega) hg'
theorem GoodTo.all {l : List Fr} (h : GoodTo l l.length) (ht : ∀ f ∈ l, f.t.length = 16) : (∀ f ∈ l, rightF f = true ∧ f.t.length = 16) ∧ (∀ f ∈ l.tail, f.k ≠ 0) := by
  refine ⟨fun f hf => ?_, fun f hf => ?_⟩
  · obtain ⟨i, hi⟩ := List.getElem?_of_mem hf
    exact ⟨(h i f (List.getElem?_eq_some_iff.1 hi).1 hi).1, ht f hf⟩
  · obtain ⟨i, hi⟩ := List.getElem?_of_mem hf
    rw [List.getElem?_tail] at hi
    exact (h (i + 1) f (List.getElem?_eq_some_iff.1 hi).1 hi).2.2 (by omega)
set_option maxHeartbeats 8000000 in
set_option maxRecDepth 10000 in
theorem list_law {w : World} {v : Value} {l0 : List (Fr × Value × Value)} (hT : Tabs w) (hl : FrsIn w v l0) :
    Calls Tryd.prog 9 #[v] w fun e w' => e = .returned (.bool true) ∧ Below w.heap.size w w' := by
  have HT := Lib.hid hT
  have HL := Lib.hid hl
  obtain ⟨l, hll⟩ : ∃ l, l = l0.map (fun x => x.1) := ⟨_, rfl⟩
  obtain ⟨a, cap, rfl, hcap, hcm, _⟩ := hl
  obtain ⟨n, hn⟩ : ∃ n, n = l0.length := ⟨_, rfl⟩
  have hn' : n = l.length := by rw [hn, hll]; simp
  have HN := Lib.hid hn
  have HN' := Lib.hid hn'
  have HLL := Lib.hid hll
  rw [← hn] at hcap HL ⊢
  have hnc : (n : Int) ≤ cap := by omega
  have hn63 : (n : Int) ≤ maxLen := by omega
  clear hT hll hn hn' hcap
  have hmx : (maxLen : Int) = 9223372036854775807 := rfl
  rw [hmx] at hn63
  clear hmx hcm
  go_enter Tryd.func9, Tryd.ntmps9
  go_wp2_with fail
  refine (alive_any _ HT.out).mono ?_
  rintro e w1 ⟨rfl, hM1⟩
  have HM1 := Lib.hid hM1
  clear hM1
  go_wp2_with fail
  go_loopw [3, 4] (fun s3 s4 wr => ∃ (j q : Nat) (ap : Option Addr) (cp : Nat) (B : List UInt8), s4 = .int .i64 j ∧ s3 = .slice ap q cp ∧ j ≤ n ∧ (q : Int) ≤ 2001 * (j : Int) ∧ (0 < j → (n : Int) ≤ 70) ∧ Hid (B.length = q ∧ B = (l.take j).flatMap fputL) ∧ Hid (OwnB wr w.heap.size (.slice ap q cp) B) ∧ Hid (Mod (fun _ => False) w wr) ∧ Hid (GoodTo l j)) (fun _ s4 _ => n - (intOf s4).toNat)
  case atStart => exact ⟨0, 0, none, 0, [], rfl, rfl, Nat.zero_le _, by omega, fun h => absurd h (by omega), ⟨rfl, by simp⟩, OwnB.nil _ _, HM1, fun i f hi => by omega⟩
  case round =>
    clear HM1
    obtain ⟨j, q, ap, cp, B, rfl, rfl, hj, hq, h70, HB, HO, HM, HG⟩ := hrel
    by_cases hjn : (j : Int) < n
    · by_cases hn7 : (n : Int) ≤ 70
      case neg =>
        have hd70 : decide ((70 : Int) < (n : Int)) = true := decide_eq_true (by omega)
        clear h70
        go_wp2_with fail
        go_ret
        exact ⟨rfl, HM.out.none_below⟩
      have hd70 : decide ((70 : Int) < (n : Int)) = false := decide_eq_false (by omega)
      clear h70
      have hjl : j < l0.length := by have := HN.out; omega
      have hx : l0[j]? = some l0[j] := List.getElem?_eq_getElem hjl
      generalize l0[j] = x at hx
      obtain ⟨f, vd, vr⟩ := x
      have hf : l[j]? = some f := by rw [HLL.out, List.getElem?_map, hx]; rfl
      obtain ⟨_, _, e1, _, _, h1⟩ := HL.out
      obtain ⟨b, off, hb, hra, hin⟩ := h1 j _ hx
      subst hb
      simp only [Value.slice.injEq] at e1
      obtain ⟨rfl, -, rfl⟩ := e1
      simp only at hra hin
      obtain ⟨C, hC⟩ : ∃ C, C = frC f vd vr := ⟨_, rfl⟩
      have HC := Lib.hid hC
      have HF := Lib.hid hf
      have HRA := Lib.hid (range_kept hra HM.out (fun h => h))
      have HIN := Lib.hid (hin.kept HM.out)
      have HKC : Hid (∀ X, Mod (fun _ => False) wr X → X.cell? ⟨b, off + j * 24, none⟩ = some (.int .i64 f.k)) := fun X h => h.cellAt (HRA.out 0 _ rfl) (fun h => h)
      obtain ⟨kf, hkf⟩ : ∃ k, f.k = k := ⟨_, rfl⟩
      rw [hkf] at HKC
      have HKF := Lib.hid hkf
      clear h1 hra hin hC hf hx hjl hkf
      go_wp2_with (first | ((with_reducible refine wpList_load_v 27 (.tmp 21) ?_ ?_ (.pointer (some ⟨b, off + j * 24, none⟩)) (.agg C) ?_ (frC_load HC.out (HRA.out) HIN.out.t) ?_); (· exact rfl); (· exact rfl); (· exact rfl)) | fail)
      refine (great_c HC.out HIN.out).mono ?_
      rintro e w2 ⟨rfl, hM2⟩
      have HM2 := Lib.hid hM2
      clear hM2
      generalize hgf : greatB f = gf at *
      have HGF := Lib.hid hgf
      clear hgf
      cases gf
      case true =>
        go_wp2_with fail
        go_ret
        exact ⟨rfl, (HM.out.trans HM2.out).none_below⟩
      have HSF := Lib.hid (great_no HGF.out)
      go_wp2_with (first | ((with_reducible refine wpList_load_v 27 (.tmp 28) ?_ ?_ (.pointer (some ⟨b, off + j * 24, none⟩)) (.agg C) ?_ (frC_load HC.out (range_kept HRA.out HM2.out (fun h => h)) HIN.out.t) ?_); (· exact rfl); (· exact rfl); (· exact rfl)) | fail)
      refine (right_c HC.out ((HIN.out.kept HM2.out).frv HSF.out.1 HSF.out.2) (by have := HSF.out.2; omega) HIN.out.k HIN.out.g).mono ?_
      rintro e w3 ⟨rfl, hM3⟩
      have HM3 := Lib.hid (HM2.out.trans hM3)
      clear hM3 HM2
      generalize hrf : rightF f = rf at *
      have HRF := Lib.hid hrf
      clear hrf
      cases rf
      case false =>
        go_wp2_with fail
        go_ret
        exact ⟨rfl, (HM.out.trans HM3.out).none_below⟩
      have c0 := HKC.out _ HM3.out
      obtain ⟨L1, hL1⟩ : ∃ x, fputL f = x := ⟨_, rfl⟩
      obtain ⟨n1, hn1⟩ : ∃ x, L1.length = x := ⟨_, rfl⟩
      have HL1 := Lib.hid hL1
      have HN1 := Lib.hid hn1
      have hz1 : (n1 : Int) ≤ 2001 := by rw [← hn1, ← hL1]; exact fput_len HRF.out HIN.out.t
      have HPC : Hid (∀ X, Mod (fun _ => False) wr X → Calls Tryd.prog 15 #[.agg C] X fun e w' => ∃ a c, e = .returned (.slice a n1 c) ∧ OwnB w' X.heap.size (.slice a n1 c) L1 ∧ Mod (fun _ => False) X w') := fun X h => fput_c HC.out ((HM.out.trans h).tabs HT.out (fun h => h)) ((HIN.out.kept h).frv HSF.out.1 HSF.out.2) (by have := HSF.out.2; omega) HIN.out.k HIN.out.g hL1 hn1
      clear hL1 hn1
      by_cases hj0 : j = 0
      · subst hj0
        go_wp2_with (first | ((with_reducible refine wpList_load_v 27 (.tmp 48) ?_ ?_ (.pointer (some ⟨b, off, none⟩)) (.agg C) ?_ (frC_load HC.out (by have := range_kept HRA.out HM3.out (fun h => h); rwa [Nat.zero_mul, Nat.add_zero] at this) HIN.out.t) ?_); (· exact rfl); (· exact rfl); (· exact rfl)) | fail)
        refine (HPC.out _ HM3.out).mono ?_
        rintro e w5 ⟨a5, c5, rfl, ho5, hM5⟩
        have HM5 := Lib.hid (HM3.out.trans hM5)
        have HY5 := Lib.hid ho5.byts
        have HO5 := Lib.hid (HO.out.keptF HM5.out)
        have HZ5 : Hid (w.heap.size ≤ w5.heap.size) := (HM.out.trans HM5.out).size
        have HBL : Hid (B.length + L1.length = q + n1) := by show _ = _; rw [HB.out.1, HN1.out]
        clear hM5 ho5 HPC HM3 c0
        go_wp2_with (first
          | ((with_reducible refine wpList_append_b ?_ (.tmp 45) (.tmp 50) ?_ (.slice ap q cp) B w.heap.size (q + n1) ?_ HO5.out (.slice a5 n1 c5) L1 ?_ HY5.out (B ++ L1) rfl HBL.out ?_ HZ5.out ?_); (· exact rfl); (· exact rfl); (· exact rfl); (· exact rfl); (· omega); intro a6 c6 w6 hA6; have HA6 := Lib.hid (hA6.modF (HM.out.trans HM5.out) (Nat.le_refl _)); have HO6 := Lib.hid hA6.own; clear hA6)
          | fail)
        go_roundw
        case rel => exact ⟨1, q + n1, a6, c6, B ++ L1, by go_num, rfl, by omega, by omega, fun _ => hn7, ⟨by rw [List.length_append]; exact HBL.out, by rw [flatf_snoc HF.out, ← HB.out.2, HL1.out]⟩, HO6, HA6, HG.out.step HF.out HRF.out HGF.out (fun h => absurd h (by omega))⟩
        case measure => simp [intOf]; omega
      · have hj1 : (0 : Int) < (j : Int) := by omega
        have hjd : decide ((0 : Int) < (j : Int)) = true := decide_eq_true hj1
        by_cases hk0 : kf = 0
        · subst hk0
          go_wp2_with fail
          go_ret
          exact ⟨rfl, (HM.out.trans HM3.out).none_below⟩
        · have hkb : (kf == 0) = false := by simpa using hk0
          have HKN := Lib.hid hk0
          clear hk0
          go_wp2_with (first | ((with_reducible refine wpList_load_v 27 (.tmp 48) ?_ ?_ (.pointer (some ⟨b, off + j * 24, none⟩)) (.agg C) ?_ (frC_load HC.out (range_kept HRA.out HM3.out (fun h => h)) HIN.out.t) ?_); (· exact rfl); (· exact rfl); (· exact rfl)) | fail)
          refine (HPC.out _ HM3.out).mono ?_
          rintro e w5 ⟨a5, c5, rfl, ho5, hM5⟩
          have HM5 := Lib.hid (HM3.out.trans hM5)
          have HY5 := Lib.hid ho5.byts
          have HO5 := Lib.hid (HO.out.keptF HM5.out)
          have HZ5 : Hid (w.heap.size ≤ w5.heap.size) := (HM.out.trans HM5.out).size
          have HBL : Hid (B.length + L1.length = q + n1) := by show _ = _; rw [HB.out.1, HN1.out]
          clear hM5 ho5 HPC HM3 c0
          go_wp2_with (first
            | ((with_reducible refine wpList_append_b ?_ (.tmp 45) (.tmp 50) ?_ (.slice ap q cp) B w.heap.size (q + n1) ?_ HO5.out (.slice a5 n1 c5) L1 ?_ HY5.out (B ++ L1) rfl HBL.out ?_ HZ5.out ?_); (· exact rfl); (· exact rfl); (· exact rfl); (· exact rfl); (· omega); intro a6 c6 w6 hA6; have HA6 := Lib.hid (hA6.modF (HM.out.trans HM5.out) (Nat.le_refl _)); have HO6 := Lib.hid hA6.own; clear hA6)
            | fail)
          go_roundw
          case rel => exact ⟨j + 1, q + n1, a6, c6, B ++ L1, by go_num, rfl, by omega, by omega, fun _ => hn7, ⟨by rw [List.length_append]; exact HBL.out, by rw [flatf_snoc HF.out, ← HB.out.2, HL1.out]⟩, HO6, HA6, HG.out.step HF.out HRF.out HGF.out (fun _ => by rw [HKF.out]; exact HKN.out)⟩
          case measure => simp [intOf]; omega
    · have hjn' : j = n := by omega
      subst hjn'
      have hall : l.take j = l := List.take_of_length_le (by have := HN'.out; omega)
      have hBL := HB.out.2
      rw [hall] at hBL
      have hgood := HG.out
      rw [HN'.out] at hgood
      have hts : ∀ f ∈ l, f.t.length = 16 := by
        intro f hf
        rw [HLL.out] at hf
        obtain ⟨x, hx, rfl⟩ := List.mem_map.1 hf
        obtain ⟨i, hi⟩ := List.getElem?_of_mem hx
        obtain ⟨_, _, _, _, _, h1⟩ := HL.out
        obtain ⟨_, _, _, _, hin⟩ := h1 i x hi
        exact hin.t
      have hga := hgood.all hts
      have hq2 : (q : Int) ≤ 200000 := by
        by_cases h0 : 0 < j
        · have := h70 h0
          omega
        · omega
      have HBY := Lib.hid HO.out.byts
      by_cases hj0 : j = 0
      · subst hj0
        have hl0 : l = [] := List.eq_nil_of_length_eq_zero HN'.out.symm
        have hp : parse66 B = ([], 3) := by rw [hBL, hl0]; rfl
        have HCL := Lib.hid (parse_c 0 HBY.out (by rw [HB.out.1]; omega) hp rfl)
        clear hp hl0 hga hts hgood hBL hall h70
        go_wp2_with fail
        refine (HCL.out).mono ?_
        rintro e w3 ⟨a3, c3, rfl, _, hM3⟩
        have HM3 := Lib.hid (HM.out.trans hM3)
        clear hM3 HCL HO HBY
        go_wp2_with fail
        go_ret
        exact ⟨rfl, HM3.out.none_below⟩
      · have hj1 : (0 : Int) < (j : Int) := by omega
        have hn7 := h70 (by omega)
        have hjb : ((j : Int) == 0) = false := by simpa using hj0
        by_cases h64 : (j : Int) ≤ 64
        · have hd64 : decide ((64 : Int) < (j : Int)) = false := decide_eq_false (by omega)
          have hp : parse66 B = (l, 0) := by
            have := parse_many l 66 [] hga.1 hga.2 (by have := HN'.out; simp; omega) (by have := HN'.out; omega) (.inl (by intro e; have := HN'.out; rw [e] at this; simp at this; omega))
            rw [hBL]
            simpa [parse66] using this
          have HCL := Lib.hid (parse_c j HBY.out (by rw [HB.out.1]; omega) hp HN'.out.symm)
          have hsm : ∀ f ∈ l, f.d.length ≤ 100000 ∧ f.rs.length ≤ 100000 := fun f hf => by
            have := right_len (hga.1 f hf).1
            omega
          have HSM := Lib.hid hsm
          have HFR : Hid (FrsR w (.slice a j cap) l) := by
            show FrsR _ _ _
            obtain ⟨a', cap', e1, h2, h3, h4⟩ := HL.out
            refine ⟨a', cap', by rw [← HN'.out]; rw [e1, ← HN.out], by rw [← HN'.out, HN.out]; exact h2, h3, fun i f hi => ?_⟩
            rw [HLL.out, List.getElem?_map] at hi
            obtain ⟨x, hx, rfl⟩ := Option.map_eq_some_iff.1 hi
            obtain ⟨b, off, hb, hra, hin⟩ := h4 i x hx
            have hm := hsm x.1 (by rw [HLL.out]; exact List.mem_map_of_mem (List.mem_of_getElem? hx))
            exact ⟨b, off, x.2.1, x.2.2, hb, hra, ⟨hin.d, hin.r, hin.t, by omega, by omega⟩⟩
          clear hp hga hts hgood hBL hall h70 hsm
          go_wp2_with fail
          refine (HCL.out).mono ?_
          rintro e w3 ⟨a3, c3, rfl, ho3, hM3⟩
          have HM3 := Lib.hid (HM.out.trans hM3)
          have HO3 := Lib.hid ho3
          clear hM3 ho3 HCL HO HBY
          go_wp2_with fail
          refine (reflist_same HN'.out (by omega) (HO3.out.frsr HSM.out) (HFR.out.kept HM3.out) (fun f hf => by have := (HSM.out f hf).2; omega)).mono ?_
          rintro e w4 ⟨rfl, hM4⟩
          have HM4 := Lib.hid (HM3.out.trans hM4)
          clear hM4 HO3 HM3
          go_wp2_with fail
          go_ret
          exact ⟨rfl, HM4.out.none_below⟩
        · have hd64 : decide ((64 : Int) < (j : Int)) = true := decide_eq_true (by omega)
          have hp : parse66 B = ([], 3) := by
            have := parse_over l 66 [] hga.1 hga.2 (by simp) (by have := HN'.out; simp; omega) (by simp)
            rw [hBL]
            simpa [parse66] using this
          have HCL := Lib.hid (parse_c 0 HBY.out (by rw [HB.out.1]; omega) hp rfl)
          clear hp hga hts hgood hBL hall h70
          go_wp2_with fail
          refine (HCL.out).mono ?_
          rintro e w3 ⟨a3, c3, rfl, _, hM3⟩
          have HM3 := Lib.hid (HM.out.trans hM3)
          clear hM3 HCL HO HBY
          go_wp2_with fail
          go_ret
          exact ⟨rfl, HM3.out.none_below⟩
end Go.Proofs.YteegonadodmeeaaDoor
