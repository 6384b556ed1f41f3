/- The walk of the law that the frame that all bytes begin with is the document's. -/
import Derived.Test.YtcnpiclpdgkngaaDoorFbT
import Derived.Test.YtcnpiclpdgkngaaDoorFbU
import Derived.Test.YtcnpiclpdgkngaaDoorFaM
import Derived.Test.YtcnpiclpdgkngaaDoorFbF
import Derived.Test.YtcnpiclpdgkngaaDoorFaV
import Derived.Test.YtcnpiclpdgkngaaDoorLaw
namespace Go.Proofs.YtcnpiclpdgkngaaDoor
open Go.RowKit


theorem rnext_any {w : World} {v : Value} {b : List UInt8} (h : Byts w v b) (hl : (b.length : Int) ≤ 5000) : Calls Tryd.prog 20 #[v] w (NextR w (nextL b)) := by
  by_cases h1 : (RS.int ⟨b, 0⟩).2.e = 0
  · cases ho : isOld (RS.int ⟨b, 0⟩).1
    · by_cases h3 : ((RS.int ⟨b, 0⟩).2.int.2.bytes (RS.int ⟨b, 0⟩).2.int.1).2.e = 0
      · cases hk : isKind (RS.int ⟨b, 0⟩).1
        · exact rnext_none h hl h1 ho h3 hk
        · rcases kind_cases hk with e | e | e | e | e | e
          · exact rnext_k0 h hl h1 h3 e
          · exact rnext_k1 h hl h1 h3 e
          · exact rnext_k3 h hl h1 h3 e
          · exact rnext_k4 h hl h1 h3 e
          · exact rnext_k7 h hl h1 h3 e
          · exact rnext_k13 h hl h1 h3 e
      · exact rnext_short h hl h1 ho h3
    · exact rnext_old h hl h1 ho
  · exact rnext_bad h hl h1
theorem Mod.none_below {w w' : World} (h : Mod (fun _ => False) w w') : Below w.heap.size w w' := h.below (Nat.le_refl _) (fun _ _ h => h.elim)
theorem sameHF_self (f : HF) : sameHF f f = true := by simp [sameHF]

theorem rnext_c {w : World} {v : Value} {b : List UInt8} (k i m : Int) (ns nd : Nat) {f : HF} {n : Nat} {z : Int} (h : Byts w v b) (hl : (b.length : Int) ≤ 5000) (hq : nextL b = (f, n, z)) (hk : f.k = k) (hi : (f.id : Int) = i) (hm : (n : Int) = m) (h1 : f.st.length = ns) (h2 : f.d.length = nd) : Calls Tryd.prog 20 #[v] w fun e w' => ∃ sa sc da dc, e = .returned (.tuple #[.agg #[.int .i64 k, .int .u64 i, .slice sa ns sc, .slice da nd dc], .int .i64 m, .int .i64 z]) ∧ HFV w' f (.slice sa ns sc) (.slice da nd dc) ∧ Mod (fun _ => False) w w' := by
  subst hk hi hm h1 h2
  refine (rnext_any h hl).mono ?_
  rintro e w' ⟨vs, vd, he, hv, hM⟩
  rw [hq] at he hv
  obtain ⟨sa, sc, rfl, _⟩ := set_val hv.st
  obtain ⟨da, dc, rfl, _⟩ := byts_val hv.d
  exact ⟨sa, sc, da, dc, he, hv, hM⟩
theorem refsame_c {w : World} {f g : HF} {vs vd us ud : Value} {k i k' i' : Int} (hf : HFV w f vs vd) (hg : HFV w g us ud) (hk : f.k = k) (hi : (f.id : Int) = i) (hk' : g.k = k') (hi' : (g.id : Int) = i') : Calls Tryd.prog 18 #[.agg #[.int .i64 k, .int .u64 i, vs, vd], .agg #[.int .i64 k', .int .u64 i', us, ud]] w fun e w' => e = .returned (.bool (sameHF f g)) ∧ Mod (fun _ => False) w w' := by
  subst hk hi hk' hi'
  exact refsame_any hf hg
set_option maxHeartbeats 4000000 in
set_option maxRecDepth 10000 in
theorem hfnext_any {w : World} {v : Value} {b : List UInt8} (hT : Tabs w) (hU : UTabs w) (hb : Byts w v b) (hl : (b.length : Int) ≤ 140737488351232) :
    Calls Tryd.prog 4 #[v] w fun e w' => e = .returned (.bool true) ∧ Below w.heap.size w w' := by
  have HT := Lib.hid hT
  have HU := Lib.hid hU
  obtain ⟨a, cap, rfl, _⟩ := byts_val hb
  obtain ⟨n, hn⟩ : ∃ n, n = b.length := ⟨_, rfl⟩
  rw [← hn] at hb hl ⊢
  have HB := Lib.hid hb
  have HN := Lib.hid hn
  clear hT hU hb hn
  by_cases hn15 : (n : Int) ≤ 1500
  · have HL1 : Hid ((b.length : Int) ≤ 100000) := by show _ ≤ _; have := HN.out; omega
    have HL2 : Hid ((b.length : Int) ≤ 5000) := by show _ ≤ _; have := HN.out; omega
    obtain ⟨f, m0, z, hR⟩ : ∃ f m z, nextL b = (f, m, z) := ⟨_, _, _, rfl⟩
    have HR := Lib.hid hR
    obtain ⟨k, hk⟩ : ∃ k, f.k = k := ⟨_, rfl⟩
    obtain ⟨i, hi⟩ : ∃ i : Int, (f.id : Int) = i := ⟨_, rfl⟩
    obtain ⟨m, hm⟩ : ∃ m : Int, (m0 : Int) = m := ⟨_, rfl⟩
    obtain ⟨ns, hns⟩ : ∃ ns, f.st.length = ns := ⟨_, rfl⟩
    obtain ⟨nd, hnd⟩ : ∃ nd, f.d.length = nd := ⟨_, rfl⟩
    have HKK := Lib.hid hk
    have HII := Lib.hid hi
    have HMM := Lib.hid hm
    have HNS := Lib.hid hns
    have HND := Lib.hid hnd
    clear hR hk hi hm hns hnd
    go_enter Tryd.func4, Tryd.ntmps4
    go_wp2_with fail
    refine (alive_any _ HT.out HU.out).mono ?_
    rintro e w1 ⟨rfl, hM1⟩
    have HM1 := Lib.hid hM1
    clear hM1
    go_wp2_with fail
    refine (next_c k i m ns nd (byts_kept HB.out HM1.out) HL1.out HR.out HKK.out HII.out HMM.out HNS.out HND.out).mono ?_
    rintro e w2 ⟨sa, sc, da, dc, rfl, hv2, hM2⟩
    have hk3 : Mod (fun _ => False) w2 (w2.alloc (.cells #[.int .i64 k, .int .u64 i, .slice sa ns sc, .slice da nd dc] 26)) := (Mod.refl _ _).alloc _
    have HM3 := Lib.hid ((HM1.out.trans hM2).trans hk3)
    have HV3 := Lib.hid (hv2.kept hk3)
    have HB3 := Lib.hid (Blk.new w2 #[.int .i64 k, .int .u64 i, .slice sa ns sc, .slice da nd dc] 26)
    clear hv2 hM2 HM1 hk3
    go_wp2_with fail
    refine (rnext_c k i m ns nd (byts_kept HB.out HM3.out) HL2.out HR.out HKK.out HII.out HMM.out HNS.out HND.out).mono ?_
    rintro e w4 ⟨ta, tc, ea, ec, rfl, hv4, hM4⟩
    have hk5 : Mod (fun _ => False) w4 (w4.alloc (.cells #[.int .i64 k, .int .u64 i, .slice ta ns tc, .slice ea nd ec] 26)) := (Mod.refl _ _).alloc _
    have HV5 := Lib.hid (hv4.kept hk5)
    have HU5 := Lib.hid (HV3.out.kept (hM4.trans hk5))
    have hC4 := hk5.blk (hM4.blk HB3.out (fun h => h)) (fun h => h)
    have c0 : (w4.alloc (.cells #[.int .i64 k, .int .u64 i, .slice ta ns tc, .slice ea nd ec] 26)).cell? ⟨w2.heap.size, 0, none⟩ = some (.int .i64 k) := hC4.cellAt 0 rfl
    have c1 : (w4.alloc (.cells #[.int .i64 k, .int .u64 i, .slice ta ns tc, .slice ea nd ec] 26)).cell? ⟨w2.heap.size, 1, none⟩ = some (.int .u64 i) := hC4.cellAt 1 rfl
    have c2 : (w4.alloc (.cells #[.int .i64 k, .int .u64 i, .slice ta ns tc, .slice ea nd ec] 26)).cell? ⟨w2.heap.size, 2, none⟩ = some (.slice sa ns sc) := hC4.cellAt 2 rfl
    have c3 : (w4.alloc (.cells #[.int .i64 k, .int .u64 i, .slice ta ns tc, .slice ea nd ec] 26)).cell? ⟨w2.heap.size, 3, none⟩ = some (.slice da nd dc) := hC4.cellAt 3 rfl
    have HM5 := Lib.hid ((HM3.out.trans hM4).trans hk5)
    clear hv4 hM4 HM3 HV3 HB3 hk5 hC4
    generalize w2.heap.size = g2 at *
    go_wp2_with fail
    refine (refsame_c HU5.out HV5.out HKK.out HII.out HKK.out HII.out).mono ?_
    rintro e w6 ⟨rfl, hM6⟩
    rw [sameHF_self]
    go_wp2_with fail
    go_ret
    exact ⟨rfl, (HM5.out.trans hM6).none_below⟩
  · go_enter Tryd.func4, Tryd.ntmps4
    go_wp2_with fail
    refine (alive_any _ HT.out HU.out).mono ?_
    rintro e w1 ⟨rfl, hM1⟩
    have HM1 := Lib.hid hM1
    clear hM1
    go_wp2_with fail
    go_ret
    exact ⟨rfl, HM1.out.none_below⟩
end Go.Proofs.YtcnpiclpdgkngaaDoor
