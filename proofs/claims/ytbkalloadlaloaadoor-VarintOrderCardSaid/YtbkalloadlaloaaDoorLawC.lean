/- The walk of the law on the order of the bytes. -/
import Derived.Test.YtbkalloadlaloaaDoorLawA
import Derived.Test.YtbkalloadlaloaaDoorPlainB
import Derived.WalkLawsBesides
namespace Go.Proofs.YtbkalloadlaloaaDoor
open Go.RowKit

theorem conv_byts {w : World} {v : Value} {l : List UInt8} (h : Byts w v l) (h0 : l ≠ []) : ∃ b off cap, v = .slice (some ⟨b, off, none⟩) l.length cap ∧
    ∀ w' : World, Mod (fun _ => False) w w' → (convert 26 9 (.slice (some ⟨b, off, none⟩) l.length cap)).run Tryd.prog w' = .ok (.string ⟨l.toArray⟩) w' := by
  obtain ⟨b, off, cap, rfl, h1, h2, h3⟩ := byts_addr h h0
  refine ⟨b, off, cap, rfl, fun w' hM => ?_⟩
  have := run_convert_bytes_arg (P := Tryd.prog) w' 26 5 Tryd.underlying26 Tryd.underlying5 b off l.length cap (l.map fun x => (x.toNat : Int)) (by simp) (fun i hi => by
    have hx := hM.cellAt (h3 i _ (List.getElem?_eq_getElem hi)) (fun h => h)
    rw [hx]
    simp [List.getD, hi, bv]) 9 Tryd.underlying9
  rw [this]
  congr 2
  unfold strOfNums
  congr 1
  apply Array.toList_inj.1
  simp [List.map_map, Function.comp_def]
theorem toList_mk (l : List UInt8) : (ByteArray.mk l.toArray).toList = l := by rw [Go.ByteArray.toList_eq]

set_option maxHeartbeats 1000000 in
set_option maxRecDepth 10000 in
/-- Where the second one has bytes, and is no less: the three ways. -/
theorem order_core (a b : Nat) (w : World) (hT : Tabs w) (hab : (a : Int) ≤ b) (hbs : b < 4611686018427387904) :
    Calls Tryd.prog 6 #[.int .u64 (a : Int), .int .u64 (b : Int)] w fun e w' => e = .returned (.bool true) ∧ Below w.heap.size w w' := by
  have HT := Lib.hid hT
  have hfa := fits_self a (by omega)
  have hfb := fits_self b hbs
  have hza := szN_mono a b (by omega) (by rcases szN_cases b with h | h | h | h | h <;> omega)
  have hza0 : putL a ≠ [] := by intro e; have := putL_length a; rw [e] at this; simp at this; rcases szN_cases a with h | h | h | h | h <;> omega
  have hzb0 : putL b ≠ [] := by intro e; have := putL_length b; rw [e] at this; simp at this; rcases szN_cases b with h | h | h | h | h <;> omega
  have hzb1 : 1 ≤ szN b := by rcases szN_cases b with h | h | h | h | h <;> omega
  have hzb8 := szN_le b
  have hless : szN a = szN b → Op.bytesLess (putL a) (putL b) = decide (a < b) := by
    intro e
    rw [putL_eq a (by omega), putL_eq b hbs, e]
    rw [e] at hfa
    exact wd_less a b _ hfa hfb
  have heq : (putL a == putL b) = decide (a = b) := by
    rw [Bool.eq_iff_iff]
    simp only [beq_iff_eq, decide_eq_true_eq]
    constructor
    · intro e
      have el : szN a = szN b := by rw [← putL_length, ← putL_length, e]
      rw [putL_eq a (by omega), putL_eq b hbs, el] at e
      rw [el] at hfa
      exact wd_inj a b _ hfa hfb e
    · rintro rfl; rfl
  have HLA := Lib.hid (putL_length a)
  have HLB := Lib.hid (putL_length b)
  have HPA := fun w hT => Lib.hid (put_any a w hT)
  have HPB := fun w hT => Lib.hid (put_any b w hT)
  have HPA' := Lib.hid HPA
  have HPB' := Lib.hid HPB
  have HA0 := Lib.hid hza0
  have HB0 := Lib.hid hzb0
  clear HPA HPB hza0 hzb0 hfa hfb hbs hT
  generalize szN a = za at *
  generalize szN b = zb at *
  have hzbi : ((zb : Int) == 0) = false := by simp; omega
  have hzi : (za : Int) ≤ zb := by omega
  generalize putL a = la at *
  generalize putL b = lb at *
  obtain ⟨A, hA⟩ : ∃ A, A = (a : Int) := ⟨_, rfl⟩
  obtain ⟨B, hB⟩ : ∃ B, B = (b : Int) := ⟨_, rfl⟩
  have hAB : A ≤ B := by omega
  have heq' : (la == lb) = (A == B) := by rw [heq, Bool.eq_iff_iff]; simp; omega
  have hless' : za = zb → Op.bytesLess la lb = decide (A < B) := by
    intro e; rw [hless e, Bool.eq_iff_iff]; simp; omega
  rw [← hA] at HPA' ⊢
  rw [← hB] at HPB' ⊢
  have HEQ := Lib.hid heq'
  have HLE := Lib.hid hless'
  clear heq hless hab hA hB heq' hless' hza hzb1 hzb8
  by_cases hz : (za : Int) < zb
  · have heqf : (A == B) = false := by
      rw [← HEQ.out]
      cases h : (la == lb)
      · rfl
      · have e : la = lb := by simpa using h
        have h1 := HLA.out; have h2 := HLB.out; rw [e, h2] at h1; omega
    have HEQF := Lib.hid (HEQ.out.trans heqf)
    go_enter Tryd.func6, Tryd.ntmps6
    go_wp2_with fail
    refine (alive_any _ HT.out).mono ?_
    rintro e w1 ⟨rfl, hM1⟩
    go_wp2_with fail
    refine (HPA'.out _ (hM1.tabs HT.out (fun h => h))).out.mono ?_
    rintro e w2 ⟨v2, rfl, ho2, hM2⟩
    obtain ⟨b2, o2, c2, rfl, hv2⟩ := conv_byts ho2.byts HA0.out
    rw [HLA.out] at hv2 ⊢
    have HV2 := Lib.hid hv2
    clear hv2 ho2
    go_wp2_with fail
    refine (HPB'.out _ ((hM1.trans hM2).tabs HT.out (fun h => h))).out.mono ?_
    rintro e w3 ⟨v3, rfl, ho3, hM3⟩
    obtain ⟨b3, o3, c3, rfl, hv3⟩ := conv_byts ho3.byts HB0.out
    rw [HLB.out] at hv3 ⊢
    have hc3 := hv3 w3 (Mod.refl _ _)
    have hc2 := HV2.out w3 hM3
    clear hv3 ho3
    obtain ⟨sa, hsa, hsa'⟩ : ∃ sa : ByteArray, sa = ⟨la.toArray⟩ ∧ sa.toList = la := ⟨_, rfl, toList_mk la⟩
    obtain ⟨sb, hsb, hsb'⟩ : ∃ sb : ByteArray, sb = ⟨lb.toArray⟩ ∧ sb.toList = lb := ⟨_, rfl, toList_mk lb⟩
    rw [← hsa] at hc2
    rw [← hsb] at hc3
    have hss : (sa.toList == sb.toList) = false := by rw [hsa', hsb']; exact HEQF.out
    clear hsa hsb hsa' hsb'
    go_wp2_with fail
    go_ret
    exact ⟨rfl, ((hM1.trans hM2).trans hM3).none_below⟩
  · have hzz : za = zb := by omega
    have hle := HLE.out hzz
    subst hzz
    have HLS := Lib.hid hle
    clear HLE hle hz
    by_cases hlt : A < B
    · have heqf : (A == B) = false := by simp; omega
      have HEQF := Lib.hid (HEQ.out.trans heqf)
      have HLT : Hid (Op.bytesLess la lb = true) := by show _ = _; rw [HLS.out]; simp [hlt]
      go_enter Tryd.func6, Tryd.ntmps6
      go_wp2_with fail
      refine (alive_any _ HT.out).mono ?_
      rintro e w1 ⟨rfl, hM1⟩
      go_wp2_with fail
      refine (HPA'.out _ (hM1.tabs HT.out (fun h => h))).out.mono ?_
      rintro e w2 ⟨v2, rfl, ho2, hM2⟩
      obtain ⟨b2, o2, c2, rfl, hv2⟩ := conv_byts ho2.byts HA0.out
      rw [HLA.out] at hv2 ⊢
      have HV2 := Lib.hid hv2
      clear hv2 ho2
      go_wp2_with fail
      refine (HPB'.out _ ((hM1.trans hM2).tabs HT.out (fun h => h))).out.mono ?_
      rintro e w3 ⟨v3, rfl, ho3, hM3⟩
      obtain ⟨b3, o3, c3, rfl, hv3⟩ := conv_byts ho3.byts HB0.out
      rw [HLB.out] at hv3 ⊢
      have hc3 := hv3 w3 (Mod.refl _ _)
      have hc2 := HV2.out w3 hM3
      clear hv3 ho3
      obtain ⟨sa, hsa, hsa'⟩ : ∃ sa : ByteArray, sa = ⟨la.toArray⟩ ∧ sa.toList = la := ⟨_, rfl, toList_mk la⟩
      obtain ⟨sb, hsb, hsb'⟩ : ∃ sb : ByteArray, sb = ⟨lb.toArray⟩ ∧ sb.toList = lb := ⟨_, rfl, toList_mk lb⟩
      rw [← hsa] at hc2
      rw [← hsb] at hc3
      have hss : (sa.toList == sb.toList) = false := by rw [hsa', hsb']; exact HEQF.out
      have hsl : Op.bytesLess sa.toList sb.toList = true := by rw [hsa', hsb']; exact HLT.out
      clear hsa hsb hsa' hsb'
      go_wp2_with fail
      go_ret
      exact ⟨rfl, ((hM1.trans hM2).trans hM3).none_below⟩
    · have heqt : (A == B) = true := by simp; omega
      have HEQT := Lib.hid (HEQ.out.trans heqt)
      have HLT : Hid (Op.bytesLess la lb = false) := by show _ = _; rw [HLS.out]; simp [hlt]
      go_enter Tryd.func6, Tryd.ntmps6
      go_wp2_with fail
      refine (alive_any _ HT.out).mono ?_
      rintro e w1 ⟨rfl, hM1⟩
      go_wp2_with fail
      refine (HPA'.out _ (hM1.tabs HT.out (fun h => h))).out.mono ?_
      rintro e w2 ⟨v2, rfl, ho2, hM2⟩
      obtain ⟨b2, o2, c2, rfl, hv2⟩ := conv_byts ho2.byts HA0.out
      rw [HLA.out] at hv2 ⊢
      have HV2 := Lib.hid hv2
      clear hv2 ho2
      go_wp2_with fail
      refine (HPB'.out _ ((hM1.trans hM2).tabs HT.out (fun h => h))).out.mono ?_
      rintro e w3 ⟨v3, rfl, ho3, hM3⟩
      obtain ⟨b3, o3, c3, rfl, hv3⟩ := conv_byts ho3.byts HB0.out
      rw [HLB.out] at hv3 ⊢
      have hc3 := hv3 w3 (Mod.refl _ _)
      have hc2 := HV2.out w3 hM3
      clear hv3 ho3
      obtain ⟨sa, hsa, hsa'⟩ : ∃ sa : ByteArray, sa = ⟨la.toArray⟩ ∧ sa.toList = la := ⟨_, rfl, toList_mk la⟩
      obtain ⟨sb, hsb, hsb'⟩ : ∃ sb : ByteArray, sb = ⟨lb.toArray⟩ ∧ sb.toList = lb := ⟨_, rfl, toList_mk lb⟩
      rw [← hsa] at hc2
      rw [← hsb] at hc3
      have hss : (sa.toList == sb.toList) = true := by rw [hsa', hsb']; exact HEQT.out
      have hsl : Op.bytesLess sa.toList sb.toList = false := by rw [hsa', hsb']; exact HLT.out
      clear hsa hsb hsa' hsb'
      go_wp2_with fail
      go_ret
      exact ⟨rfl, ((hM1.trans hM2).trans hM3).none_below⟩

set_option maxHeartbeats 1000000 in
set_option maxRecDepth 10000 in
/-- Where the first one is greater, or the second one has no bytes. -/
theorem order_triv (a b : Nat) (w : World) (hT : Tabs w) (h : b < a ∨ 4611686018427387904 ≤ b) :
    Calls Tryd.prog 6 #[.int .u64 (a : Int), .int .u64 (b : Int)] w fun e w' => e = .returned (.bool true) ∧ Below w.heap.size w w' := by
  have HT := Lib.hid hT
  have HPA := Lib.hid (fun w hT => put_any a w hT)
  have HPB := Lib.hid (fun w hT => put_any b w hT)
  have hb : (b : Int) < a ∨ ((¬ (b : Int) < a) ∧ putL b = []) := by
    by_cases h' : b < a
    · left; omega
    · right; exact ⟨by omega, putL_none b (by omega)⟩
  generalize putL a = la at *
  generalize putL b = lb at *
  clear hT h
  rcases hb with h | ⟨h, rfl⟩
  · go_enter Tryd.func6, Tryd.ntmps6
    go_wp2_with fail
    refine (alive_any _ HT.out).mono ?_
    rintro e w1 ⟨rfl, hM1⟩
    go_wp2_with fail
    refine (HPA.out _ (hM1.tabs HT.out (fun h => h))).mono ?_
    rintro e w2 ⟨v2, rfl, ho2, hM2⟩
    go_wp2_with fail
    refine (HPB.out _ ((hM1.trans hM2).tabs HT.out (fun h => h))).mono ?_
    rintro e w3 ⟨v3, rfl, ho3, hM3⟩
    go_wp2_with fail
    go_ret
    exact ⟨rfl, ((hM1.trans hM2).trans hM3).none_below⟩
  · go_enter Tryd.func6, Tryd.ntmps6
    go_wp2_with fail
    refine (alive_any _ HT.out).mono ?_
    rintro e w1 ⟨rfl, hM1⟩
    go_wp2_with fail
    refine (HPA.out _ (hM1.tabs HT.out (fun h => h))).mono ?_
    rintro e w2 ⟨v2, rfl, ho2, hM2⟩
    go_wp2_with fail
    refine (HPB.out _ ((hM1.trans hM2).tabs HT.out (fun h => h))).mono ?_
    rintro e w3 ⟨v3, rfl, ho3, hM3⟩
    obtain ⟨a3, c3, rfl, _⟩ := byts_val ho3.byts
    simp only [List.length_nil]
    go_wp2_with fail
    go_ret
    exact ⟨rfl, ((hM1.trans hM2).trans hM3).none_below⟩
theorem order_any (a b : Nat) (w : World) (hT : Tabs w) :
    Calls Tryd.prog 6 #[.int .u64 (a : Int), .int .u64 (b : Int)] w fun e w' => e = .returned (.bool true) ∧ Below w.heap.size w w' := by
  by_cases h : b < a ∨ 4611686018427387904 ≤ b
  · exact order_triv a b w hT h
  · exact order_core a b w hT (by omega) (by omega)
end Go.Proofs.YtbkalloadlaloaaDoor
