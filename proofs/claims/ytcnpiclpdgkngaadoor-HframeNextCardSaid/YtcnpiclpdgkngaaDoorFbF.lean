/- The reference's Great and Same of frames, and whether two lists of fields are the same. (printed by genfbf.py) -/
import Derived.Test.YtcnpiclpdgkngaaDoorFaN
import Derived.Test.YtcnpiclpdgkngaaDoorFaQ
import Derived.Test.YtcnpiclpdgkngaaDoorVarT
namespace Go.Proofs.YtcnpiclpdgkngaaDoor
open Go.RowKit

def greatH (f : HF) : Bool := decide (1500 < f.d.length) || decide (40 < f.st.length)
set_option maxRecDepth 10000 in
theorem refgreat_any {w : World} {f : HF} {vs vd : Value} (hs : SetV w vs f.st) (hd : Byts w vd f.d) : Calls Tryd.prog 11 #[hfA f vs vd] w fun e w' => e = .returned (.bool (greatH f)) ∧ Mod (fun _ => False) w w' := by
  obtain ⟨sa, sc, rfl, _⟩ := set_val hs
  obtain ⟨da, dc, rfl, _⟩ := byts_val hd
  obtain ⟨R, hR⟩ : ∃ R, R = greatH f := ⟨_, rfl⟩
  rw [← hR]
  have HR : Hid (R = (decide (1500 < f.d.length) || decide (40 < f.st.length))) := hR
  unfold hfA
  clear hs hd hR
  generalize f.st.length = n1 at *
  generalize f.d.length = n2 at *
  generalize (f.id : Int) = i at *
  generalize f.k = k at *
  have hM0 : Mod (fun _ => False) w (w.alloc (.cells #[.int .i64 k, .int .u64 i, .slice sa n1 sc, .slice da n2 dc] 26)) := (Mod.refl _ w).alloc _
  go_enter Tryd.func11, Tryd.ntmps11
  go_wp2
  all_goals
    go_ret
    refine ⟨ret_bool ?_, hM0⟩
    rw [HR.out, Bool.eq_iff_iff]
    simp
    try omega
set_option maxHeartbeats 4000000 in
set_option maxRecDepth 10000 in
theorem refsame_any {w : World} {f g : HF} {vs vd us ud : Value} (hf : HFV w f vs vd) (hg : HFV w g us ud) : Calls Tryd.prog 18 #[hfA f vs vd, hfA g us ud] w fun e w' => e = .returned (.bool (sameHF f g)) ∧ Mod (fun _ => False) w w' := by
  have HDE := Lib.hid (fun X (h : Mod (fun _ => False) w X) => same_any (byts_kept hf.d h) (byts_kept hg.d h))
  have HA := Lib.hid hf.st
  have HB := Lib.hid hg.st
  have hn1 := hf.sl
  have hn3 := hg.sl
  obtain ⟨sa, sc, rfl, hsc, _⟩ := set_val hf.st
  obtain ⟨da, dc, rfl, _⟩ := byts_val hf.d
  obtain ⟨ta, tc, rfl, htc, _⟩ := set_val hg.st
  obtain ⟨ea, ec, rfl, _⟩ := byts_val hg.d
  have HK : Hid (sameHF f g = (decide (f.k = g.k) && decide ((f.id : Int) = g.id) && decide (f.st = g.st) && decide (f.d = g.d))) := by
    show _ = _
    unfold sameHF
    rw [show decide ((f.id : Int) = g.id) = decide (f.id = g.id) by rw [Bool.eq_iff_iff]; simp; omega]
  unfold hfA
  generalize sameHF f g = R at *
  generalize f.st = la at *
  generalize g.st = lb at *
  generalize decide (f.d = g.d) = b4 at *
  clear hf hg
  obtain ⟨n, hn⟩ : ∃ n, n = la.length := ⟨_, rfl⟩
  obtain ⟨m, hm⟩ : ∃ n, n = lb.length := ⟨_, rfl⟩
  rw [← hn] at hn1 hsc ⊢
  rw [← hm] at hn3 htc ⊢
  have HN := Lib.hid hn
  have HM := Lib.hid hm
  have hnc : (n : Int) ≤ sc := by omega
  have hmc : (m : Int) ≤ tc := by omega
  clear hn hm hsc htc
  generalize f.d.length = n2 at *
  generalize g.d.length = n4 at *
  generalize (f.id : Int) = i at *
  generalize (g.id : Int) = j at *
  generalize f.k = k0 at *
  generalize g.k = l0 at *
  have hM0 : Mod (fun _ => False) w ((w.alloc (.cells #[.int .i64 k0, .int .u64 i, .slice sa n sc, .slice da n2 dc] 26)).alloc (.cells #[.int .i64 l0, .int .u64 j, .slice ta m tc, .slice ea n4 ec] 26)) := ((Mod.refl _ w).alloc _).alloc _
  go_enter Tryd.func18, Tryd.ntmps18
  by_cases hk : k0 = l0
  case neg =>
    have t1 : (k0 != l0) = true := by simpa using hk
    have HR : Hid (R = false) := by show _ = _; rw [HK.out]; simp [hk]
    clear hk
    go_wp2
    go_ret
    exact ⟨ret_bool HR.out.symm, hM0⟩
  have t1 : (k0 != l0) = false := by simpa using hk
  by_cases hi : i = j
  case neg =>
    have t2 : (i != j) = true := by simpa using hi
    have HR : Hid (R = false) := by show _ = _; rw [HK.out]; simp [hi]
    clear hk hi
    go_wp2
    go_ret
    exact ⟨ret_bool HR.out.symm, hM0⟩
  have t2 : (i != j) = false := by simpa using hi
  have HR : Hid (R = (decide (la = lb) && b4)) := by show _ = _; rw [HK.out]; simp [hk, hi]
  clear hk hi HK
  by_cases hnm : n = m
  case neg =>
    have hd : ((n : Int) != (m : Int)) = true := by simp; omega
    have HR2 : Hid (R = false) := by
      show _ = _
      rw [HR.out, decide_eq_false (by intro e; exact hnm (by rw [HN.out, HM.out, e]))]
      rfl
    clear hnm
    go_wp2
    go_ret
    exact ⟨ret_bool HR2.out.symm, hM0⟩
  subst hnm
  go_wp2_with fail
  refine (HDE.out _ hM0).mono ?_
  rintro e w1 ⟨⟨q, rfl⟩, rfl⟩
  have hM1 : Mod (fun _ => False) w (World.drewN (w.alloc (.cells #[.int .i64 k0, .int .u64 i, .slice sa n sc, .slice da n2 dc] 26)|>.alloc (.cells #[.int .i64 l0, .int .u64 j, .slice ta n tc, .slice ea n4 ec] 26)) q) := hM0.drewN q
  have bA : Blk (World.drewN (w.alloc (.cells #[.int .i64 k0, .int .u64 i, .slice sa n sc, .slice da n2 dc] 26)|>.alloc (.cells #[.int .i64 l0, .int .u64 j, .slice ta n tc, .slice ea n4 ec] 26)) q) w.heap.size #[.int .i64 k0, .int .u64 i, .slice sa n sc, .slice da n2 dc] 26 := ((Mod.refl (fun _ => False) _).drewN q).blk ((Blk.new w _ _).alloc _) (fun h => h)
  have bB : Blk (World.drewN (w.alloc (.cells #[.int .i64 k0, .int .u64 i, .slice sa n sc, .slice da n2 dc] 26)|>.alloc (.cells #[.int .i64 l0, .int .u64 j, .slice ta n tc, .slice ea n4 ec] 26)) q) (w.heap.size + 1) #[.int .i64 l0, .int .u64 j, .slice ta n tc, .slice ea n4 ec] 26 := by
    have := Blk.new (w.alloc (.cells #[.int .i64 k0, .int .u64 i, .slice sa n sc, .slice da n2 dc] 26)) #[.int .i64 l0, .int .u64 j, .slice ta n tc, .slice ea n4 ec] 26
    rw [show ∀ o : Obj, (w.alloc o).heap.size = w.heap.size + 1 from fun o => by simp] at this
    exact ((Mod.refl (fun _ => False) _).drewN q).blk this (fun h => h)
  have HBA := Lib.hid bA
  have HBB := Lib.hid bB
  have HM1 := Lib.hid hM1
  clear bA bB hM1 hM0
  generalize World.drewN _ q = w1 at *
  cases b4
  · have HR2 : Hid (R = false) := by show _ = _; rw [HR.out]; simp
    go_wp2
    go_ret
    exact ⟨ret_bool HR2.out.symm, HM1.out⟩
  have HR2 : Hid (R = decide (la = lb)) := by show _ = _; rw [HR.out]; simp
  clear HR
  generalize w.heap.size = gA at *
  have hc20 := HBA.out.cellAt 2 rfl
  go_wp2_with fail
  go_loopw [5] (fun s5 wr => ∃ k : Nat, k ≤ n ∧ s5 = .int .i64 k ∧ Mod (fun _ => False) w1 wr ∧ Hid (la.take k = lb.take k)) (fun s5 _ => n - (intOf s5).toNat)
  case atStart => exact ⟨0, Nat.zero_le _, rfl, Mod.refl _ _, rfl⟩
  case round =>
    obtain ⟨k, hk, rfl, hM, HJ⟩ := hrel
    have HMr := Lib.hid hM
    have ca := (hM.blk HBA.out (fun h => h)).cellAt 2 rfl
    have cad := (hM.drew.blk HBA.out (fun h => h)).cellAt 2 rfl
    have cbd := (hM.drew.blk HBB.out (fun h => h)).cellAt 2 rfl
    clear hM hc20
    by_cases hkn : (k : Int) < n
    · have hka : k < la.length := by have := HN.out; omega
      have hkb : k < lb.length := by have := HM.out; omega
      have hs : la[k]? = some la[k] := List.getElem?_eq_getElem hka
      have ht : lb[k]? = some lb[k] := List.getElem?_eq_getElem hkb
      generalize la[k] = s at hs
      generalize lb[k] = t at ht
      obtain ⟨ba, oa, cpa, hv, _, _, hcs⟩ := set_addr HA.out (by rintro rfl; simp at hka)
      simp only [Value.slice.injEq] at hv
      obtain ⟨rfl, _, rfl⟩ := hv
      obtain ⟨bb, ob, cpb, hv, _, _, hct⟩ := set_addr HB.out (by rintro rfl; simp at hkb)
      simp only [Value.slice.injEq] at hv
      obtain ⟨rfl, _, rfl⟩ := hv
      obtain ⟨g0, g1⟩ := hcs k s hs
      obtain ⟨h0, h1⟩ := hct k t ht
      have hMd := HM1.out.trans HMr.out.drew
      have g0' := hMd.cellAt g0 (fun h => h)
      have g1' := hMd.cellAt g1 (fun h => h)
      have h0' := hMd.cellAt h0 (fun h => h)
      have h1' := hMd.cellAt h1 (fun h => h)
      have HS := Lib.hid hs
      have HT := Lib.hid ht
      clear g0 g1 h0 h1 hs ht hcs hct hka hkb hMd
      obtain ⟨c, hc⟩ : ∃ c, c = !decide (s = t) := ⟨_, rfl⟩
      have HC := Lib.hid hc
      clear hc
      go_wp2_with fail
      refine wp_region_held_drew (S := fun X => X.cell? ⟨gA, 2, none⟩ = some (.slice (some ⟨ba, oa, none⟩) n sc) ∧ X.cell? ⟨gA + 1, 2, none⟩ = some (.slice (some ⟨bb, ob, none⟩) n tc) ∧ X.cell? ⟨ba, oa + k * 2, none⟩ = some (.int .u64 (s.1 : Int)) ∧ X.cell? ⟨ba, oa + k * 2 + 1, none⟩ = some (.int .u64 (s.2 : Int)) ∧ X.cell? ⟨bb, ob + k * 2, none⟩ = some (.int .u64 (t.1 : Int)) ∧ X.cell? ⟨bb, ob + k * 2 + 1, none⟩ = some (.int .u64 (t.2 : Int))) (by kernel_rfl) ⟨cad, cbd, g0', g1', h0', h1'⟩ (fun hS => ?_)
      refine wpAnyH_take (i := 0) (v := .pointer (some ⟨gA, 2, none⟩)) rfl (by kernel_rfl) (by kernel_rfl) (by kernel_rfl) (fun _ _ _ h => h) (Or.inl ⟨by rfl, fun X hX => ?_⟩) hS ?_
      · go_simp
      refine wpAnyH_take (i := 1) (v := .slice (some ⟨ba, oa, none⟩) n sc) rfl (by kernel_rfl) (by kernel_rfl) (by kernel_rfl) (fun _ _ _ h => h) (Or.inl ⟨by rfl, fun X hX => ?_⟩) hS ?_
      · have := hX.1; go_simp
      refine wpAnyH_take (i := 2) (v := .int .i64 k) rfl (by kernel_rfl) (by kernel_rfl) (by kernel_rfl) (fun _ _ _ h => h) (Or.inl ⟨by rfl, fun X hX => ?_⟩) hS ?_
      · go_simp
      refine wpAnyH_take (i := 3) (v := .pointer (some ⟨ba, oa + k * 2, none⟩)) rfl (by kernel_rfl) (by kernel_rfl) (by kernel_rfl) (fun _ _ _ h => h) (Or.inl ⟨by rfl, fun X hX => ?_⟩) hS ?_
      · go_simp
      refine wpAnyH_take (i := 4) (v := .agg (setA s)) rfl (by kernel_rfl) (by kernel_rfl) (by kernel_rfl) (fun _ _ _ h => h) (Or.inl ⟨by rfl, fun X hX => ?_⟩) hS ?_
      · have x0 := hX.2.2.1; have x1 := hX.2.2.2.1; go_simp; rfl
      refine wpAnyH_take (i := 5) (v := .pointer (some ⟨gA + 1, 2, none⟩)) rfl (by kernel_rfl) (by kernel_rfl) (by kernel_rfl) (fun _ _ _ h => h) (Or.inl ⟨by rfl, fun X hX => ?_⟩) hS ?_
      · go_simp
      refine wpAnyH_take (i := 6) (v := .slice (some ⟨bb, ob, none⟩) n tc) rfl (by kernel_rfl) (by kernel_rfl) (by kernel_rfl) (fun _ _ _ h => h) (Or.inl ⟨by rfl, fun X hX => ?_⟩) hS ?_
      · have := hX.2.1; go_simp
      refine wpAnyH_take (i := 7) (v := .int .i64 k) rfl (by kernel_rfl) (by kernel_rfl) (by kernel_rfl) (fun _ _ _ h => h) (Or.inl ⟨by rfl, fun X hX => ?_⟩) hS ?_
      · go_simp
      refine wpAnyH_take (i := 8) (v := .pointer (some ⟨bb, ob + k * 2, none⟩)) rfl (by kernel_rfl) (by kernel_rfl) (by kernel_rfl) (fun _ _ _ h => h) (Or.inl ⟨by rfl, fun X hX => ?_⟩) hS ?_
      · go_simp
      refine wpAnyH_take (i := 9) (v := .agg (setA t)) rfl (by kernel_rfl) (by kernel_rfl) (by kernel_rfl) (fun _ _ _ h => h) (Or.inl ⟨by rfl, fun X hX => ?_⟩) hS ?_
      · have x0 := hX.2.2.2.2.1; have x1 := hX.2.2.2.2.2; go_simp; rfl
      refine wpAnyH_take (i := 10) (v := .bool c) rfl (by kernel_rfl) (by kernel_rfl) (by kernel_rfl) (fun _ _ _ h => h) (Or.inl ⟨by rfl, fun X hX => ?_⟩) hS ?_
      · refine exec_eq (X := setA s) (Y := setA t) rfl ?_ ?_ guard49 (by rw [HC.out]; exact set_neq X s t) <;> go_simp
      refine wpAnyH_done (by kernel_rfl) ?_ _
      go_simp
      have HMd := Lib.hid (HMr.out.drew)
      cases c
      · have HE : Hid (s = t) := by have := HC.out; show s = t; simpa using this
        go_wp2_with fail
        go_roundw
        case rel => exact ⟨k + 1, by omega, by go_num, HMd.out, take_eq_step HJ.out HS.out HT.out HE.out⟩
        case measure => simp [intOf]; omega
      · have HE : Hid (¬ s = t) := by have := HC.out; show ¬ s = t; simpa using this
        go_wp2_with fail
        go_ret
        refine ⟨ret_bool ?_, HM1.out.trans HMd.out⟩
        rw [HR2.out]
        symm
        apply decide_eq_false
        rintro rfl
        have h1 := HS.out
        rw [HT.out] at h1
        exact HE.out (Option.some.inj h1).symm
    · have hkn' : k = n := by omega
      have e1 : la.take k = la := List.take_of_length_le (by have := HN.out; omega)
      have e2 : lb.take k = lb := List.take_of_length_le (by have := HM.out; omega)
      have HJ' := HJ.out
      rw [e1, e2] at HJ'
      have HJJ := Lib.hid HJ'
      clear e1 e2 HJ'
      go_wp2
      go_ret
      refine ⟨ret_bool ?_, HM1.out.trans HMr.out⟩
      rw [HR2.out, HJJ.out]
      simp
end Go.Proofs.YtcnpiclpdgkngaaDoor
