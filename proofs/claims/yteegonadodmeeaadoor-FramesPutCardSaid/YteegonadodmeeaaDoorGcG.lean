/- The walks of the laws that bytes 0 are paddings, and that what is parsed is put and parsed as the same. -/
import Derived.Test.YteegonadodmeeaaDoorGcD
import Derived.Test.YteegonadodmeeaaDoorGcE
namespace Go.Proofs.YteegonadodmeeaaDoor
open Go.RowKit

theorem Mod.none_below {w w' : World} (h : Mod (fun _ => False) w w') : Below w.heap.size w w' := h.below (Nat.le_refl _) (fun _ _ h => h.elim)
theorem sum_snoc {l : List Fr} {j : Nat} {f : Fr} (h : l[j]? = some f) : sumA (l.take (j + 1)) = sumA (l.take j) + f.a := by
  rw [take_snoc l j f h]
  simp [sumA]
theorem sum_take (l : List Fr) (j : Nat) : sumA (l.take j) ≤ sumA l := by
  have h := List.take_append_drop j l
  have : sumA l = sumA (l.take j) + sumA (l.drop j) := by
    unfold sumA
    rw [← List.sum_append_nat, ← List.map_append, h]
  omega
set_option maxHeartbeats 4000000 in
set_option maxRecDepth 10000 in
theorem zeros_law {w : World} {z : Int} (hT : Tabs w) (hz : 0 ≤ z ∧ z ≤ 65535) :
    Calls Tryd.prog 8 #[.int .u16 z] w fun e w' => e = .returned (.bool true) ∧ Below w.heap.size w w' := by
  have HAL := Lib.hid (alive_any w hT)
  obtain ⟨k, hk⟩ : ∃ k : Nat, (k : Int) = 1 + z.tmod 4000 := ⟨(1 + z.tmod 4000).toNat, by
    have := Int.tmod_nonneg 4000 hz.1
    omega⟩
  have hk1 : (1 : Int) ≤ (k : Int) ∧ (k : Int) ≤ 4000 := by
    have h1 := Int.tmod_nonneg 4000 hz.1
    have h2 := Int.tmod_lt_of_pos z (show (0 : Int) < 4000 by decide)
    omega
  have hw1 : IntKind.i64.wrap z = z := IntWalk.i64_in _ (by omega)
  have hw2 : IntKind.i64.wrap (z.tmod 4000) = z.tmod 4000 := IntWalk.i64_in _ (by omega)
  have hw3 : IntKind.i64.wrap (1 + z.tmod 4000) = (k : Int) := by rw [← hk]; exact IntWalk.i64_in _ (by omega)
  have HP := Lib.hid (parse_zeros (k := k) (by omega) (by omega))
  obtain ⟨l, hl⟩ : ∃ l, l = zl 4 k := ⟨_, rfl⟩
  rw [← hl] at HP
  have HZ : Hid ((∀ f ∈ l, f.k = 0 ∧ f.a ≤ 1200) ∧ sumA l = k ∧ l.length = (k + 1199) / 1200) := by
    show _ ∧ _
    rw [hl]
    exact ⟨zl_mem 4 k, zl_sum 4 k (by omega)⟩
  obtain ⟨n, hn⟩ : ∃ n, n = l.length := ⟨_, rfl⟩
  have HN := Lib.hid hn
  have hn4 : (n : Int) ≤ 4 := by have := HZ.out.2.2; omega
  obtain ⟨i0, hi, hz0, hz1, hz2⟩ := info_parts Tryd.info5
  clear hT hz hl hn
  go_enter Tryd.func8, Tryd.ntmps8
  go_wp2_with fail
  refine (HAL.out).mono ?_
  rintro e w1 ⟨rfl, hM1⟩
  have HM1 := Lib.hid hM1
  clear hM1 HAL
  go_wp2_with (at_make; go_must (refine wpList_make_full _ rfl _ _ 23 rfl w1.heap.size 5 i0 (.int .u8 0) 1 Tryd.underlying23 hi hz0 hz1 _ _ _ _ k rfl rfl hk.symm hk.symm (by rw [hz2]; omega) (by unfold maxLen; omega) (by simp) ?_); intro w2 hown hgrow)
  have hb : Byts w2 (.slice (some ⟨w1.heap.size, 0, none⟩) k k) (List.replicate k 0) := by
    have h := Sl.ofOwn hown
    rw [Nat.mul_one, show (Value.int .u8 0).cells = #[.int .u8 0] from rfl, toList_madeCells_one] at h
    have e : (List.replicate k (Value.int .u8 0)) = (List.replicate k (0 : UInt8)).map bv := by rw [List.map_replicate]; rfl
    rw [e] at h
    unfold Byts
    rw [List.length_replicate]
    exact h
  have HM2 := Lib.hid (HM1.out.grown hgrow (fun k h => by simp at h))
  have HCL := Lib.hid (parse_c n hb (by simp; omega) HP.out HN.out.symm)
  clear hown hgrow hb
  refine (HCL.out).mono ?_
  rintro e w3 ⟨a3, c3, rfl, ho3, hM3⟩
  have HM3 := Lib.hid (HM2.out.trans hM3)
  have HO3 := Lib.hid ho3
  clear ho3 hM3 HM1 HM2 HCL
  rw [← hk] at *
  have HK := Lib.hid hk
  clear hk hi hz0 hz1 hz2 hw2 hw3 HP
  generalize hgk : (k : Int) = kk at *
  have HGK := Lib.hid hgk
  clear hgk
  go_wp2_with fail
  go_loopw [6, 7] (fun s6 s7 wr => ∃ j s : Nat, s7 = .int .i64 j ∧ s6 = .int .u64 s ∧ j ≤ n ∧ (s : Int) ≤ 4000 ∧ Hid (sumA (l.take j) = s) ∧ wr = w3) (fun _ s7 _ => n - (intOf s7).toNat)
  case atStart => exact ⟨0, 0, rfl, rfl, Nat.zero_le _, by decide, by show _ = _; simp [sumA], rfl⟩
  case round =>
    obtain ⟨j, s, rfl, rfl, hj, hs, HS, rfl⟩ := hrel
    by_cases hjn : (j : Int) < n
    · have hjl : j < l.length := by have := HN.out; omega
      have hf : l[j]? = some l[j] := List.getElem?_eq_getElem hjl
      generalize l[j] = f at hf
      obtain ⟨hfk, hfa⟩ := HZ.out.1 f (List.mem_of_getElem? hf)
      obtain ⟨g, cap, vd, vr, hv, _, hr⟩ := HO3.out.at hf
      simp only [Value.slice.injEq] at hv
      obtain ⟨rfl, _, _⟩ := hv
      have c0 : wr.cell? ⟨g, j * 24, none⟩ = some (.int .i64 0) := by have := hr 0 (.int .i64 f.k) rfl; rw [hfk] at this; exact this
      have c2 : wr.cell? ⟨g, j * 24 + 2, none⟩ = some (.int .u64 (f.a : Int)) := hr 2 _ rfl
      have hai : (f.a : Int) ≤ 1200 := by omega
      have HF := Lib.hid hf
      have hle : (s : Int) + (f.a : Int) ≤ 4000 := by
        have h1 := sum_snoc hf
        have h2 := sum_take l (j + 1)
        have h3 := HZ.out.2.1
        have h4 := HS.out
        have h5 := HGK.out
        omega
      obtain ⟨A, hA⟩ : ∃ A, A = f.a := ⟨_, rfl⟩
      rw [← hA] at c2 hai hle
      have HA := Lib.hid hA
      clear hr hfk hfa hf hjl hA
      go_wp2_with fail
      go_roundw
      case rel => exact ⟨j + 1, s + A, by go_num, by go_num, by omega, by omega, (by show _ = _; rw [sum_snoc HF.out, HS.out, HA.out]), by first | rfl | trivial⟩
      case measure => simp [intOf]; omega
    · have hjn' : j = n := by omega
      have hsk : (s : Int) = kk := by
        have h1 := HS.out
        rw [List.take_of_length_le (by have := HN.out; omega), HZ.out.2.1] at h1
        rw [← HGK.out, h1]
      have hnk : (n : Int) = (kk + 1199).tdiv 1200 := by
        have h1 := HN.out
        have h2 := HZ.out.2.2
        have h3 := HGK.out
        rw [Int.tdiv_eq_ediv_of_nonneg (by omega)]
        omega
      go_wp2_with fail
      go_ret
      exact ⟨rfl, HM3.out.none_below⟩
end Go.Proofs.YteegonadodmeeaaDoor

namespace Go.Proofs.YteegonadodmeeaaDoor
open Go.RowKit

theorem rngB_le : ∀ (l : List (Nat × Nat)) (p : Option Nat), rngB p l = true → ∀ x ∈ l, x.1 ≤ x.2 ∧ x.2 ≤ topN
  | [], _, _ => by simp
  | y :: l, none, h => by
    simp only [rngB, Bool.and_eq_true, decide_eq_true_eq] at h
    intro x hx
    rcases List.mem_cons.1 hx with rfl | hx
    · exact h.1
    · exact rngB_le l _ h.2 x hx
  | y :: l, some p, h => by
    simp only [rngB, Bool.and_eq_true, decide_eq_true_eq] at h
    intro x hx
    rcases List.mem_cons.1 hx with rfl | hx
    · exact h.1.1.1
    · exact rngB_le l _ h.2 x hx
theorem right_okK {f : Fr} (h : rightF f = true) : okKey f.k := by
  obtain ⟨m, hm, _⟩ := right_parts h
  rcases kind_cases hm with hk | hk | hk | hk | hk | hk | hk | hk | hk | hk | hk | hk | hk | hk | hk | hk | hk | hk | hk | hk <;> (rw [hk]; exact okKey_small (by decide) (by decide))
theorem right_rng {f : Fr} (h : rightF f = true) : RngOk f := by
  obtain ⟨m, hm, _, he, ho⟩ := right_parts h
  by_cases h2 : f.k = 2
  · rw [h2] at ho
    have h1 : okN 2 f = true := ho
    simp only [okN, rangesB, Bool.and_eq_true] at h1
    intro x hx
    have := rngB_le _ _ h1.1.1 x hx
    unfold topN at this
    omega
  · have hr : f.rs = [] := by
      have hr : f.rs = (onlyF m f).rs := congrArg Fr.rs he
      rcases kind_cases hm with hk | hk | hk | hk | hk | hk | hk | hk | hk | hk | hk | hk | hk | hk | hk | hk | hk | hk | hk | hk
      all_goals first | exact absurd hk h2 | (rw [hk] at hm; obtain rfl := Option.some.inj hm; exact hr)
    intro x hx
    rw [hr] at hx
    cases hx
theorem finL_len (acc : List Fr) (s : RS) : (finL acc s).1.length ≤ acc.length := by
  unfold finL
  by_cases hc : (if acc = [] then s.fail 3 else s).e ≠ 0
  · rw [if_pos hc]; simp
  · rw [if_neg hc]; simp
theorem parseN_len : ∀ (n : Nat) (acc : List Fr) (s : RS), (parseN n acc s).1.length ≤ acc.length + n
  | 0, acc, s => finL_len acc s
  | n + 1, acc, s => by
    show (if s.l = [] then finL acc s else parseN n (acc ++ [(nextF s).1]) (mostL acc.length (nextF s).2)).1.length ≤ _
    by_cases hl : s.l = []
    · rw [if_pos hl]; have := finL_len acc s; omega
    · rw [if_neg hl]
      have := parseN_len n (acc ++ [(nextF s).1]) (mostL acc.length (nextF s).2)
      simp at this
      omega
theorem frC_load {w : World} {f : Fr} {vd vr : Value} {C : Array Value} {g o : Nat} (hC : C = frC f vd vr) (h : w.rangeAt g o (frC f vd vr).toList) (ht : f.t.length = 16) : (Instr.loadAt 27 (.pointer (some ⟨g, o, none⟩))).run Tryd.prog w = .ok (.agg C) w := by
  subst hC
  exact OwnF.load h ht
set_option maxHeartbeats 8000000 in
set_option maxRecDepth 10000 in
theorem again_law {w : World} {v : Value} {b : List UInt8} (hT : Tabs w) (hv : Byts w v b) (hr : b.length ≤ 140737488351232) :
    Calls Tryd.prog 7 #[v] w fun e w' => e = .returned (.bool true) ∧ Below w.heap.size w w' := by
  have HAL := Lib.hid (alive_any w hT)
  have HT := Lib.hid hT
  have HV := Lib.hid hv
  obtain ⟨ba, bc, rfl, _⟩ := byts_val hv
  obtain ⟨m, hm⟩ : ∃ m, m = b.length := ⟨_, rfl⟩
  have HMM := Lib.hid hm
  rw [← hm] at hr HV ⊢
  have hmi : (m : Int) ≤ 140737488351232 := by omega
  clear hT hv hr hm
  go_enter Tryd.func7, Tryd.ntmps7
  go_wp2_with fail
  refine (HAL.out).mono ?_
  rintro e w1 ⟨rfl, hM1⟩
  have HM1 := Lib.hid hM1
  clear hM1 HAL
  by_cases hm2 : (m : Int) ≤ 2000
  case neg =>
    go_wp2_with fail
    go_ret
    exact ⟨rfl, HM1.out.none_below⟩
  obtain ⟨l, z, hlz⟩ : ∃ l z, parse66 b = (l, z) := ⟨_, _, rfl⟩
  obtain ⟨n, hn⟩ : ∃ n, l.length = n := ⟨_, rfl⟩
  have HCL := Lib.hid (parse_c n (byts_kept HV.out HM1.out) (by have := HMM.out; omega) hlz hn)
  have HOK : Hid (z = 0 → ∀ f ∈ l, rightF f = true) := by
    intro h
    have := parse_ok (b := b)
    rw [hlz] at this
    exact this h
  have HNO : Hid (z ≠ 0 → l = []) := by
    intro h
    have := parseN_none 66 [] ⟨b, 0⟩
    rw [show parseN 66 [] ⟨b, 0⟩ = (l, z) from hlz] at this
    exact this h
  have HN := Lib.hid hn
  have hn66 : (n : Int) ≤ 66 := by
    have := parseN_len 66 [] ⟨b, 0⟩
    rw [show parseN 66 [] ⟨b, 0⟩ = (l, z) from hlz] at this
    simp only [List.length_nil] at this
    omega
  clear hlz hn
  go_wp2_with fail
  refine (HCL.out).mono ?_
  rintro e w3 ⟨a3, c3, rfl, ho3, hM3⟩
  have HM3 := Lib.hid (HM1.out.trans hM3)
  have HO3 := Lib.hid ho3
  clear ho3 hM3 HM1 HCL
  by_cases hz : z = 0
  case neg =>
    have hn0 : n = 0 := by rw [← HN.out, HNO.out hz]; rfl
    subst hn0
    have hz1 : (z == 0) = false := by simpa using hz
    clear HOK HNO HO3 HN
    go_wp2_with fail
    go_ret
    exact ⟨rfl, HM3.out.none_below⟩
  subst hz
  have HR := Lib.hid (HOK.out rfl)
  clear HOK HNO
  go_wp2_with fail
  go_loopw [5] (fun s5 wr => ∃ j : Nat, s5 = .int .i64 j ∧ j ≤ n ∧ Hid (Mod (fun _ => False) w3 wr)) (fun s5 _ => n - (intOf s5).toNat)
  case atStart => exact ⟨0, rfl, Nat.zero_le _, Mod.refl _ _⟩
  case round =>
    obtain ⟨j, rfl, hj, HMr⟩ := hrel
    by_cases hjn : (j : Int) < n
    · have hjl : j < l.length := by have := HN.out; omega
      have hf : l[j]? = some l[j] := List.getElem?_eq_getElem hjl
      generalize l[j] = f at hf
      have hrf := HR.out f (List.mem_of_getElem? hf)
      obtain ⟨g, cap, vd, vr, hv, hfo, hra⟩ := (HO3.out.kept HMr.out (fun _ _ _ _ _ h => h) (fun _ _ h => h)).at hf
      simp only [Value.slice.injEq] at hv
      obtain ⟨rfl, -, -⟩ := hv
      have hlen := right_len hrf
      have hfv := hfo.frv (by omega) (by omega)
      obtain ⟨C, hC⟩ : ∃ C, C = frC f vd vr := ⟨_, rfl⟩
      have HC := Lib.hid hC
      have HFV := Lib.hid hfv
      have HRA := Lib.hid hra
      have HRF := Lib.hid hrf
      have HLN := Lib.hid hlen
      obtain ⟨L, hL⟩ : ∃ L, fputL f = L := ⟨_, rfl⟩
      obtain ⟨q, hq⟩ : ∃ q, L.length = q := ⟨_, rfl⟩
      have HPC := Lib.hid (fput_c hC ((HM3.out.trans HMr.out).tabs HT.out (fun h => h)) hfv (by omega) (right_okK hrf) (right_rng hrf) hL hq)
      have hp1 := parse_one hrf hfv.t
      rw [hL] at hp1
      have HP1 := Lib.hid hp1
      have HQ : Hid ((L.length : Int) ≤ 10000000) := by
        show _ ≤ _
        rw [← hL]
        have := body_len hrf hfv.t
        have e : fputL f = UInt8.ofNat (tagN f) :: bodyN f.k.toNat f := by unfold fputL; rw [if_pos hrf]
        rw [e, List.length_cons]
        omega
      clear hf hrf hfo hra hlen hfv hC hL hp1 hjl hq
      go_wp2_with (first
        | ((with_reducible refine wpList_load_v 27 (.tmp 32) ?_ ?_ (.pointer (some ⟨g, j * 24, none⟩)) (.agg C) ?_ (frC_load HC.out HRA.out HFV.out.t) ?_); (· exact rfl); (· exact rfl); (· exact rfl))
        | fail)
      refine (HPC.out).mono ?_
      rintro e w4 ⟨a4, c4, rfl, ho4, hM4⟩
      have HM4 := Lib.hid hM4
      have HB4 := Lib.hid ho4.byts
      clear ho4 hM4 HPC
      go_wp2_with fail
      refine (parse_c 1 HB4.out HQ.out HP1.out rfl).mono ?_
      rintro e w5 ⟨a5, c5, rfl, ho5, hM5⟩
      obtain ⟨g5, c5', vd5, vr5, hv5, hf5, hr5⟩ := ho5.at (i := 0) rfl
      simp only [Value.slice.injEq] at hv5
      obtain ⟨rfl, -, -⟩ := hv5
      have HM5 := Lib.hid (HM4.out.trans hM5)
      have HFV5 := Lib.hid (hf5.frv (by have := HLN.out; omega) (by have := HLN.out; omega))
      have HR5 := Lib.hid hr5
      obtain ⟨D, hD⟩ : ∃ C, C = frC f vd5 vr5 := ⟨_, rfl⟩
      have HD := Lib.hid hD
      clear ho5 hM5 hf5 hr5 HM4 HB4 hD
      go_wp2_with fail
      (try go_frame)
      refine wp_region_held_drew (S := fun X => Mod (fun _ => False) w5 X) (by kernel_rfl) (Mod.refl _ _).drew (fun hS => ?_)
      refine takeH (i := 0) (v := .int .i64 0) (some 38) rfl rfl (by kernel_rfl) (by kernel_rfl) (by kernel_rfl) (fun _ _ _ h => h) (Or.inl ⟨by rfl, fun X hX => ?_⟩) hS ?_
      · go_simp
      (try go_frame)
      refine takeH (i := 1) (v := .bool false) (some 39) rfl rfl (by kernel_rfl) (by kernel_rfl) (by kernel_rfl) (fun _ _ _ h => h) (Or.inl ⟨by rfl, fun X hX => ?_⟩) hS ?_
      · go_simp
      (try go_frame)
      refine takeH (i := 2) (v := .bool false) (some 40) rfl rfl (by kernel_rfl) (by kernel_rfl) (by kernel_rfl) (fun _ _ _ h => h) (Or.inl ⟨by rfl, fun X hX => ?_⟩) hS ?_
      · go_simp
      (try go_frame)
      refine takeH (i := 3) (v := .slice (some ⟨g5, 0, none⟩) 1 c5) (some 41) rfl rfl (by kernel_rfl) (by kernel_rfl) (by kernel_rfl) (fun _ _ _ h => h) (Or.inl ⟨by rfl, fun X hX => ?_⟩) hS ?_
      · go_simp
      (try go_frame)
      refine takeH (i := 4) (v := .int .i64 1) (some 42) rfl rfl (by kernel_rfl) (by kernel_rfl) (by kernel_rfl) (fun _ _ _ h => h) (Or.inl ⟨by rfl, fun X hX => ?_⟩) hS ?_
      · go_simp
      (try go_frame)
      refine takeH (i := 5) (v := .bool false) (some 43) rfl rfl (by kernel_rfl) (by kernel_rfl) (by kernel_rfl) (fun _ _ _ h => h) (Or.inl ⟨by rfl, fun X hX => ?_⟩) hS ?_
      · go_simp
      (try go_frame)
      refine takeH (i := 6) (v := .bool false) (some 44) rfl rfl (by kernel_rfl) (by kernel_rfl) (by kernel_rfl) (fun _ _ _ h => h) (Or.inl ⟨by rfl, fun X hX => ?_⟩) hS ?_
      · go_simp
      (try go_frame)
      refine takeH (i := 7) (v := .bool false) (some 45) rfl rfl (by kernel_rfl) (by kernel_rfl) (by kernel_rfl) (fun _ _ _ h => h) (Or.inl ⟨by rfl, fun X hX => ?_⟩) hS ?_
      · go_simp
      (try go_frame)
      refine takeH (i := 8) (v := .slice (some ⟨g5, 0, none⟩) 1 c5) (some 46) rfl rfl (by kernel_rfl) (by kernel_rfl) (by kernel_rfl) (fun _ _ _ h => h) (Or.inl ⟨by rfl, fun X hX => ?_⟩) hS ?_
      · go_simp
      (try go_frame)
      refine takeH (i := 9) (v := .pointer (some ⟨g5, 0, none⟩)) (some 47) rfl rfl (by kernel_rfl) (by kernel_rfl) (by kernel_rfl) (fun _ _ _ h => h) (Or.inl ⟨by rfl, fun X hX => ?_⟩) hS ?_
      · go_simp
      (try go_frame)
      refine takeH (i := 10) (v := .agg D) (some 48) rfl rfl (by kernel_rfl) (by kernel_rfl) (by kernel_rfl) (fun _ _ _ h => h) (Or.inl ⟨by rfl, fun X hX => ?_⟩) hS ?_
      · exact exec_load' rfl (p := .pointer (some ⟨g5, 0, none⟩)) (by rfl) (frC_load HD.out (range_kept HR5.out hX (fun h => h)) HFV5.out.t)
      (try go_frame)
      refine takeH (i := 11) (v := .slice (some ⟨g, 0, none⟩) n c3) (some 49) rfl rfl (by kernel_rfl) (by kernel_rfl) (by kernel_rfl) (fun _ _ _ h => h) (Or.inl ⟨by rfl, fun X hX => ?_⟩) hS ?_
      · go_simp
      (try go_frame)
      refine takeH (i := 12) (v := .int .i64 (j : Int)) (some 50) rfl rfl (by kernel_rfl) (by kernel_rfl) (by kernel_rfl) (fun _ _ _ h => h) (Or.inl ⟨by rfl, fun X hX => ?_⟩) hS ?_
      · go_simp
      (try go_frame)
      refine takeH (i := 13) (v := .pointer (some ⟨g, j * 24, none⟩)) (some 51) rfl rfl (by kernel_rfl) (by kernel_rfl) (by kernel_rfl) (fun _ _ _ h => h) (Or.inl ⟨by rfl, fun X hX => ?_⟩) hS ?_
      · go_simp
      (try go_frame)
      refine takeH (i := 14) (v := .agg C) (some 52) rfl rfl (by kernel_rfl) (by kernel_rfl) (by kernel_rfl) (fun _ _ _ h => h) (Or.inl ⟨by rfl, fun X hX => ?_⟩) hS ?_
      · exact exec_load' rfl (p := .pointer (some ⟨g, j * 24, none⟩)) (by rfl) (frC_load HC.out (range_kept (range_kept HRA.out HM5.out (fun h => h)) hX (fun h => h)) HFV.out.t)
      (try go_frame)
      refine wpAnyH_ready (rs := [15]) (by kernel_rfl) (by simp) ?_
      refine AllReadyH.cons rfl (fun K hK => ?_) AllReadyH.nil
      go_simp
      refine (fsame_c HD.out HC.out (HFV5.out.kept hS) ((HFV.out.kept HM5.out).kept hS) (by have := HLN.out; omega) (by have := HLN.out; omega)).mono ?_
      rintro e X8 ⟨rfl, hk8⟩
      rw [show sameF f f = true by simp [sameF]]
      refine hK.out _ _ (hS.trans hk8) (fun hS => ?_)
      clear hK K
      refine takeH (i := 16) (v := .bool false) (some 54) rfl rfl (by kernel_rfl) (by kernel_rfl) (by kernel_rfl) (fun _ _ _ h => h) (Or.inl ⟨by rfl, fun X hX => ?_⟩) hS ?_
      · go_simp
      (try go_frame)
      refine takeH (i := 17) (v := .bool false) (some 55) rfl rfl (by kernel_rfl) (by kernel_rfl) (by kernel_rfl) (fun _ _ _ h => h) (Or.inl ⟨by rfl, fun X hX => ?_⟩) hS ?_
      · go_simp
      (try go_frame)
      refine wpAnyH_done (by kernel_rfl) ?_ _
      have HM8 := Lib.hid ((HMr.out.trans HM5.out).trans hS)
      clear hS
      go_wp2_with fail
      go_roundw
      case rel => exact ⟨j + 1, by go_num, by omega, HM8⟩
      case measure => simp [intOf]; omega
    · have hjn' : j = n := by omega
      go_wp2_with fail
      go_ret
      exact ⟨rfl, (HM3.out.trans HMr.out).none_below⟩
end Go.Proofs.YteegonadodmeeaaDoor
