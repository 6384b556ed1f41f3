/- Is there a byte from A to Z: bytes.ContainsFunc with upper. -/
import Derived.Test.YtcnpiclpdgkngaaDoorUtf
import Derived.Test.YtcnpiclpdgkngaaDoorShf
import Derived.Test.YtcnpiclpdgkngaaDoorFaN
namespace Go.Proofs.YtcnpiclpdgkngaaDoor
open Go.RowKit

abbrev UTabs (w : World) : Prop := Lib.Utf8Tabs 2 3 w
theorem utabs_mod {S : Nat → Prop} {w w' : World} (h : UTabs w) (hM : Mod S w w') (h1 : ¬ S 2) (h2 : ¬ S 3) : UTabs w' :=
  ⟨fun c hc => hM.cellAt (h.1 c hc) h1, fun i hi => ⟨hM.cellAt (h.2 i hi).1 h2, hM.cellAt (h.2 i hi).2 h2⟩⟩
theorem UTabs.kept {w w' : World} (h : UTabs w) (hM : Mod (fun _ => False) w w') : UTabs w' := utabs_mod h hM (fun h => h) (fun h => h)
theorem drune {w : World} {b off cap : Nat} (m : List UInt8) (hT : UTabs w) (hc : ∀ (j : Nat) (y : UInt8), m[j]? = some y → w.cell? ⟨b, off + j, none⟩ = some (bv y)) :
    Calls Tryd.prog 74 #[.slice (some ⟨b, off, none⟩) m.length cap] w fun e w' => e = .returned (.tuple #[.int .i32 ((Lib.decodeGo ⟨m.toArray⟩).1 : Int), .int .i64 ((Lib.decodeGo ⟨m.toArray⟩).2 : Int)]) ∧ Mod (fun _ => False) w w' := by
  have h := Any7.utf8_DecodeRune Tryd.lays32 ⟨m.toArray⟩ b off cap w hT (fun j hj => by
    rw [dec_size] at hj
    have hy : m[j]? = some m[j] := List.getElem?_eq_getElem hj
    rw [dec_get m j _ hy]
    exact hc j _ hy)
  rw [dec_size] at h
  refine Calls.mono h ?_
  rintro e w' ⟨rfl, hb⟩
  exact ⟨rfl, (Mod.ofBelow hb).mono (fun k hk hs => absurd hs (by omega))⟩
set_option maxRecDepth 10000 in
theorem upper_any (z : Int) (w : World) (b : Bool) (hb : (decide (65 ≤ z) && decide (z ≤ 90)) = b) : Calls Tryd.prog 43 #[.int .i32 z] w fun e w' => w = w' ∧ e = .returned (.bool b) := by
  by_cases h : (65 : Int) ≤ z
  · have t1 : decide ((65 : Int) ≤ z) = true := decide_eq_true h
    rw [t1, Bool.true_and] at hb
    have HB := Lib.hid hb
    clear hb
    go_enter Tryd.func43, Tryd.ntmps43
    go_wp2
    go_ret
    exact ⟨rfl, ret_bool HB.out⟩
  · have t1 : decide ((65 : Int) ≤ z) = false := decide_eq_false h
    rw [t1, Bool.false_and] at hb
    have HB := Lib.hid hb
    clear hb
    go_enter Tryd.func43, Tryd.ntmps43
    go_wp2
    go_ret
    exact ⟨rfl, ret_bool HB.out⟩
theorem any_take_add {l : List UInt8} {p k : Nat} (h : (l.take p).any isUp = false) (hk : ∀ j y, j < k → l[p + j]? = some y → isUp y = false) : (l.take (p + k)).any isUp = false := by
  rw [List.any_eq_false] at h ⊢
  intro x hx
  obtain ⟨i, hi, he⟩ := List.getElem_of_mem hx
  rw [List.length_take] at hi
  have he' : l[i]? = some x := by
    rw [← he, List.getElem_take, List.getElem?_eq_getElem]
  by_cases hip : i < p
  · refine h x ?_
    have : (l.take p)[i]? = some x := by rw [List.getElem?_take, if_pos hip]; exact he'
    exact List.mem_of_getElem? this
  · have := hk (i - p) x (by omega) (by rw [show p + (i - p) = i by omega]; exact he')
    simp [this]
set_option maxHeartbeats 2000000 in
set_option maxRecDepth 10000 in
theorem indexf_any {w : World} {v : Value} {l : List UInt8} (hT : UTabs w) (hv : Byts w v l) (hn : (l.length : Int) ≤ 100000) :
    Calls Tryd.prog 69 #[v, .func (.func 43) #[] #[], .bool true] w fun e w' => ∃ z : Int, e = .returned (.int .i64 z) ∧ (l.any isUp = true → (0 : Int) ≤ z) ∧ (l.any isUp = false → z = -1) ∧ Mod (fun _ => False) w w' := by
  have HT := Lib.hid hT
  have HV := Lib.hid hv
  obtain ⟨a, cap, rfl, hcap, hmax, _⟩ := byts_val hv
  obtain ⟨n, hnn⟩ : ∃ n, n = l.length := ⟨_, rfl⟩
  rw [← hnn] at hn hcap ⊢
  have HN := Lib.hid hnn
  have hnc : (n : Int) ≤ cap := by omega
  obtain ⟨R, hR⟩ : ∃ R, R = l.any isUp := ⟨_, rfl⟩
  rw [← hR]
  have HRR := Lib.hid hR
  have HMAX := Lib.hid hmax
  clear hv hT hcap hnn hR hmax
  go_enter Tryd.func69, Tryd.ntmps69
  go_wp2
  go_loopw [7] (fun s7 wr => ∃ k : Nat, k ≤ n ∧ s7 = .int .i64 k ∧ Mod (fun _ => False) w wr ∧ Hid ((l.take k).any isUp = false)) (fun s7 _ => n - (intOf s7).toNat)
  case atStart => exact ⟨0, Nat.zero_le _, rfl, Mod.refl _ _, by show _ = _; simp⟩
  case round =>
    obtain ⟨k, hk, rfl, hM, HJ⟩ := hrel
    have HMr := Lib.hid hM
    clear hM
    by_cases hkn : (k : Int) < n
    · have hkl : k < l.length := by have := HN.out; omega
      have hs : l[k]? = some l[k] := List.getElem?_eq_getElem hkl
      generalize l[k] = x at hs
      obtain ⟨b, off, cp, hv, _, _, hcs⟩ := byts_addr HV.out (by rintro rfl; simp at hkl)
      simp only [Value.slice.injEq] at hv
      obtain ⟨rfl, _, rfl⟩ := hv
      have hdl : (l.drop k).length = n - k := by rw [List.length_drop]; have := HN.out; omega
      have HD := Lib.hid (drune (w := wr) (b := b) (off := off + k) (cap := cap - k) (l.drop k) (HT.out.kept HMr.out) (fun j y hy => by
        rw [List.getElem?_drop] at hy
        have := HMr.out.cellAt (hcs (k + j) y hy) (fun h => h)
        rwa [← Nat.add_assoc] at this))
      rw [hdl] at HD
      have h0 : (l.drop k)[0]? = some x := by rw [List.getElem?_drop]; exact hs
      have HNX : Hid (∃ (r : Nat) (d : Nat) (u : Bool), Lib.decodeGo ⟨(l.drop k).toArray⟩ = (r, d) ∧ (decide (65 ≤ (r : Int)) && decide ((r : Int) ≤ 90)) = u ∧ 1 ≤ d ∧ k + d ≤ n ∧ (u = true → R = true) ∧ (u = false → (l.take (k + d)).any isUp = false)) := by
        show ∃ _, _
        by_cases ha : x.toNat < 128
        · refine ⟨x.toNat, 1, _, dec_ascii _ x h0 ha, rfl, Nat.le_refl _, by have := HN.out; omega, fun hu => ?_, fun hu => ?_⟩
          · rw [HRR.out]
            refine List.any_eq_true.2 ⟨x, List.mem_of_getElem? hs, ?_⟩
            unfold isUp
            simp only [Bool.and_eq_true, decide_eq_true_eq] at hu ⊢
            omega
          · refine any_take_add HJ.out (fun j y hj hy => ?_)
            obtain rfl : j = 0 := by omega
            rw [Nat.add_zero, hs] at hy
            obtain rfl := Option.some.inj hy
            unfold isUp
            rw [← hu, Bool.eq_iff_iff]
            simp only [Bool.and_eq_true, decide_eq_true_eq]
            omega
        · obtain ⟨d1, d2, d3, d4⟩ := dec_high _ x h0 ha
          have hd : Lib.decodeGo ⟨(l.drop k).toArray⟩ = ((Lib.decodeGo ⟨(l.drop k).toArray⟩).1, (Lib.decodeGo ⟨(l.drop k).toArray⟩).2) := rfl
          generalize (Lib.decodeGo ⟨(l.drop k).toArray⟩).1 = r at *
          generalize (Lib.decodeGo ⟨(l.drop k).toArray⟩).2 = d at *
          rw [hdl] at d3
          have hu0 : (decide (65 ≤ (r : Int)) && decide ((r : Int) ≤ 90)) = false := by
            rw [show decide ((r : Int) ≤ 90) = false from decide_eq_false (by omega), Bool.and_false]
          refine ⟨r, d, false, hd, hu0, d2, by omega, fun h => (by cases h), fun _ => any_take_add HJ.out (fun j y hj hy => ?_)⟩
          have := d4 j y hj (by rw [List.getElem?_drop]; exact hy)
          unfold isUp
          rw [Bool.and_eq_false_iff]
          right
          exact decide_eq_false (by omega)
      clear hs hcs hkl h0 hdl
      obtain ⟨r, d, u, e1, hu, hd1, hdn, hyes, hno⟩ := HNX.out
      rw [e1] at HD
      simp only at HD
      have HU := Lib.hid (fun w => upper_any (r : Int) w u hu)
      have HYES := Lib.hid hyes
      have HNO := Lib.hid hno
      have HD1 := Lib.hid hd1
      have HDN := Lib.hid hdn
      clear hu hyes hno HNX e1 hd1 hdn
      have hksub : ((n : Int) - (k : Int)) = ((n - k : Nat) : Int) := by omega
      have hksubc : ((cap : Int) - (k : Int)) = ((cap - k : Nat) : Int) := by omega
      generalize (r : Int) = rz at *
      have hkd : (k : Int) + (d : Int) ≤ n := by have := HDN.out; omega
      have hd0 : (0 : Int) ≤ d := by omega
      go_wp2_with fail
      refine (HD.out).mono ?_
      rintro e w1 ⟨rfl, hM1⟩
      have HM1 := Lib.hid (HMr.out.trans hM1)
      clear hM1
      go_wp2_with fail
      refine (HU.out _).mono ?_
      rintro e w2 ⟨rfl, rfl⟩
      cases u
      · go_wp2_with fail
        go_roundw
        case rel => exact ⟨k + d, HDN.out, by go_num, HM1.out, HNO.out trivial⟩
        case measure => have := HD1.out; simp [intOf]; omega
      · go_wp2_with fail
        go_ret
        exact ⟨(k : Int), rfl, fun _ => by omega, fun h => (by rw [HYES.out trivial] at h; cases h), HM1.out⟩
    · have hkn' : k = n := by omega
      have hall : l.take k = l := List.take_of_length_le (by have := HN.out; omega)
      have HJ' := HJ.out
      rw [hall, ← HRR.out] at HJ'
      have HJJ := Lib.hid HJ'
      clear HJ'
      go_wp2
      go_ret
      exact ⟨-1, rfl, fun h => (by rw [HJJ.out] at h; cases h), fun _ => rfl, HMr.out⟩
set_option maxRecDepth 10000 in
theorem indexfn_any {w : World} {v : Value} {l : List UInt8} (hT : UTabs w) (hv : Byts w v l) (hn : (l.length : Int) ≤ 100000) :
    Calls Tryd.prog 63 #[v, .func (.func 43) #[] #[]] w fun e w' => ∃ z : Int, e = .returned (.int .i64 z) ∧ (l.any isUp = true → (0 : Int) ≤ z) ∧ (l.any isUp = false → z = -1) ∧ Mod (fun _ => False) w w' := by
  have HX := Lib.hid (indexf_any hT hv hn)
  obtain ⟨R, hR⟩ : ∃ R, R = l.any isUp := ⟨_, rfl⟩
  rw [← hR] at HX ⊢
  obtain ⟨a, cap, rfl, _⟩ := byts_val hv
  clear hv hR hn hT
  generalize l.length = n at *
  go_enter Tryd.func63, Tryd.ntmps63
  go_wp2_with fail
  refine (HX.out).mono ?_
  rintro e w1 ⟨z, rfl, h1, h2, hM⟩
  have H1 := Lib.hid h1
  have H2 := Lib.hid h2
  clear h1 h2
  go_wp2
  go_ret
  exact ⟨z, rfl, H1.out, H2.out, hM⟩
set_option maxRecDepth 10000 in
theorem upin_any {w : World} {v : Value} {l : List UInt8} (hT : UTabs w) (hv : Byts w v l) (hn : (l.length : Int) ≤ 100000) :
    Calls Tryd.prog 42 #[v, .func (.func 43) #[] #[]] w fun e w' => e = .returned (.bool (l.any isUp)) ∧ Mod (fun _ => False) w w' := by
  have HX := Lib.hid (indexfn_any hT hv hn)
  obtain ⟨R, hR⟩ : ∃ R, R = l.any isUp := ⟨_, rfl⟩
  rw [← hR] at HX ⊢
  obtain ⟨a, cap, rfl, _⟩ := byts_val hv
  clear hv hR hn hT
  generalize l.length = n at *
  go_enter Tryd.func42, Tryd.ntmps42
  go_wp2_with fail
  refine (HX.out).mono ?_
  rintro e w1 ⟨z, rfl, h1, h2, hM⟩
  have H1 := Lib.hid h1
  have H2 := Lib.hid h2
  clear h1 h2
  go_wp2
  go_ret
  refine ⟨ret_bool ?_, hM⟩
  have h1 := H1.out
  have h2 := H2.out
  cases hi : R
  · have := h2 hi; subst this; rfl
  · have := h1 hi; simpa using this
end Go.Proofs.YtcnpiclpdgkngaaDoor
