/- Are fields right, all: the program's. -/
import Derived.Test.YtcnpiclpdgkngaaDoorFaP
namespace Go.Proofs.YtcnpiclpdgkngaaDoor
open Go.RowKit

/-- Fields that are no longer than any machine's texts. -/
def FdsOk (l : List Fd) : Prop := ∀ f ∈ l, (f.n.length : Int) ≤ 100000 ∧ (f.v.length : Int) ≤ 100000
set_option maxHeartbeats 2000000 in
set_option maxRecDepth 10000 in
theorem fldidx_any {w : World} {v : Value} {l : List Fd} (hT : UTabs w) (hv : FldV w v l) (hn : (l.length : Int) ≤ 100000) (ho : FdsOk l) :
    Calls Tryd.prog 64 #[v, .func (.func 41) #[] #[]] w fun e w' => ∃ z : Int, e = .returned (.int .i64 z) ∧ (l.any badFd = true → (0 : Int) ≤ z) ∧ (l.any badFd = false → z = -1) ∧ Mod (fun _ => False) w w' := by
  have HV := Lib.hid hv
  have HT := Lib.hid hT
  have HO := Lib.hid ho
  obtain ⟨a, cap, rfl, hcap, _⟩ := fld_val hv
  obtain ⟨n, hnn⟩ : ∃ n, n = l.length := ⟨_, rfl⟩
  rw [← hnn] at hn hcap ⊢
  have HN := Lib.hid hnn
  have hnc : (n : Int) ≤ cap := by omega
  obtain ⟨R, hR⟩ : ∃ R, R = l.any badFd := ⟨_, rfl⟩
  rw [← hR]
  have HRR := Lib.hid hR
  clear hv hT ho hcap hnn hR
  go_enter Tryd.func64, Tryd.ntmps64
  go_wp2
  go_loopw [8] (fun s8 wr => ∃ k : Nat, k ≤ n ∧ s8 = .int .i64 k ∧ Mod (fun _ => False) w wr ∧ Hid ((l.take k).any badFd = false)) (fun s8 _ => n - (intOf s8).toNat)
  case atStart => exact ⟨0, Nat.zero_le _, rfl, Mod.refl _ _, by show _ = _; simp⟩
  case round =>
    obtain ⟨k, hk, rfl, hM, HJ⟩ := hrel
    have HMr := Lib.hid hM
    clear hM
    by_cases hkn : (k : Int) < n
    · have hkl : k < l.length := by have := HN.out; omega
      have hs : l[k]? = some l[k] := List.getElem?_eq_getElem hkl
      generalize l[k] = s at hs
      obtain ⟨b, off, cp, hv, _, _, hcs⟩ := fld_addr HV.out (by rintro rfl; simp at hkl)
      simp only [Value.slice.injEq] at hv
      obtain ⟨rfl, _, rfl⟩ := hv
      obtain ⟨g0, g1⟩ := hcs k s hs
      have g0' := HMr.out.cellAt g0 (fun h => h)
      have g1' := HMr.out.cellAt g1 (fun h => h)
      have HS := Lib.hid hs
      have hos := HO.out s (List.mem_of_getElem? hs)
      have heq := Lib.hid (badfd_any s (HT.out.kept HMr.out) hos.1 hos.2)
      clear g0 g1 hs hcs hkl hos
      generalize hbd : badFd s = B at heq
      have HB := Lib.hid hbd
      clear hbd
      unfold strV at *
      generalize (ByteArray.mk s.n.toArray) = s1 at *
      generalize (ByteArray.mk s.v.toArray) = s2 at *
      cases B
      · go_wp2_with fail
        refine (heq.out).mono ?_
        rintro e w1 ⟨rfl, hM1⟩
        go_wp2
        go_roundw
        case rel => exact ⟨k + 1, by omega, by go_num, HMr.out.trans hM1, by show _ = _; rw [take_snoc l k s HS.out, List.any_append, HJ.out]; simpa using HB.out⟩
        case measure => simp [intOf]; omega
      · go_wp2_with fail
        refine (heq.out).mono ?_
        rintro e w1 ⟨rfl, hM1⟩
        go_wp2
        go_ret
        refine ⟨(k : Int), rfl, fun _ => by omega, fun h => ?_, HMr.out.trans hM1⟩
        have hm := List.mem_of_getElem? HS.out
        have : l.any badFd = true := List.any_eq_true.2 ⟨s, hm, HB.out⟩
        rw [HRR.out, this] at h
        cases h
    · have hkn' : k = n := by omega
      go_wp2
      go_ret
      have hall : l.take k = l := List.take_of_length_le (by have := HN.out; omega)
      have HJ' := HJ.out
      rw [hall] at HJ'
      exact ⟨-1, rfl, fun h => (by rw [HRR.out, HJ'] at h; cases h), fun _ => rfl, HMr.out⟩
theorem fldin_any {w : World} {v : Value} {l : List Fd} (hT : UTabs w) (hv : FldV w v l) (hn : (l.length : Int) ≤ 100000) (ho : FdsOk l) :
    Calls Tryd.prog 44 #[v, .func (.func 41) #[] #[]] w fun e w' => e = .returned (.bool (l.any badFd)) ∧ Mod (fun _ => False) w w' := by
  have HX := Lib.hid (fldidx_any hT hv hn ho)
  obtain ⟨R, hR⟩ : ∃ R, R = l.any badFd := ⟨_, rfl⟩
  rw [← hR] at HX ⊢
  obtain ⟨a, cap, rfl, _⟩ := fld_val hv
  clear hv hT ho hR hn
  generalize l.length = n at *
  go_enter Tryd.func44, Tryd.ntmps44
  go_wp2_with fail
  refine (HX.out).mono ?_
  rintro e w1 ⟨z, rfl, h1, h2, hM⟩
  have H1 := Lib.hid h1
  have H2 := Lib.hid h2
  clear h1 h2
  go_wp2
  go_ret
  refine ⟨ret_bool ?_, hM⟩
  have h1 := H1.out
  have h2 := H2.out
  cases hi : R
  · have := h2 hi; subst this; rfl
  · have := h1 hi; simpa using this
theorem flds_any {w : World} {v : Value} {l : List Fd} (hT : UTabs w) (hv : FldV w v l) (hn : (l.length : Int) ≤ 100000) (ho : FdsOk l) :
    Calls Tryd.prog 22 #[v] w fun e w' => e = .returned (.bool (fieldsB l)) ∧ Mod (fun _ => False) w w' := by
  have HX := Lib.hid (fldin_any hT hv hn ho)
  obtain ⟨R, hR⟩ : ∃ R, R = fieldsB l := ⟨_, rfl⟩
  rw [← hR]
  have HRR : Hid (R = (decide (l.length ≤ 32) && !(l.any badFd))) := hR
  obtain ⟨a, cap, rfl, _⟩ := fld_val hv
  clear hv hT ho hR
  generalize l.any badFd = B at *
  generalize l.length = n at *
  go_enter Tryd.func22, Tryd.ntmps22
  go_wp2_with fail
  · refine (HX.out).mono ?_
    rintro e w1 ⟨rfl, hM⟩
    go_wp2
    go_ret
    refine ⟨ret_bool ?_, hM⟩
    rw [HRR.out]
    rw [Bool.eq_iff_iff]
    cases B <;> simp <;> omega
  · go_ret
    refine ⟨ret_bool ?_, Mod.refl _ _⟩
    rw [HRR.out]
    rw [Bool.eq_iff_iff]
    cases B <;> simp <;> omega
end Go.Proofs.YtcnpiclpdgkngaaDoor
