/- The document's Put of parameters. -/
import Derived.Test.YtacgcpofpmkgnaaDoorPaF
namespace Go.Proofs.YtacgcpofpmkgnaaDoor
open Go.RowKit

theorem u8_small (n : Nat) (h : n < 256) : Value.int .u8 (n : Int) = bv (UInt8.ofNat n) := by
  unfold bv; congr 1
  rw [UInt8.toNat_ofNat_of_lt' (by show _ < 256; omega)]
set_option maxRecDepth 10000 in
theorem refone_any (id n : Nat) (w : World) (hi : (id : Int) < 64) :
    Calls Tryd.prog 22 #[.int .u64 (id : Int), .int .u64 (n : Int)] w fun e w' => ∃ v, e = .returned v ∧ OwnB w' w.heap.size v (oneL id n) ∧ Mod (fun _ => False) w w' := by
  by_cases hn : n = 0
  · rw [one_zero id n hn]
    subst hn
    go_enter Tryd.func22, Tryd.ntmps22
    go_wp2
    go_ret
    exact ⟨_, rfl, OwnB.nil _ _, Mod.refl _ _⟩
  · rw [one_pos id n hn]
    have h0 : ((n : Int) == 0) = false := by simp; omega
    have h8 := putL_len n
    have HI := Lib.hid hi
    have hp := Lib.hid (refput_any n w)
    obtain ⟨L, hL⟩ : ∃ L, L = putL n := ⟨_, rfl⟩
    rw [← hL] at hp h8 ⊢
    have w1 : IntKind.u8.wrap (id : Int) = id := IntWalk.u8_in _ (by omega)
    have w2 : IntKind.u8.wrap (L.length : Int) = L.length := IntWalk.u8_in _ (by omega)
    have HL8 := Lib.hid h8
    clear hn hL hi h8
    go_enter Tryd.func22, Tryd.ntmps22
    go_wp2_with fail
    refine (hp.out).mono ?_
    rintro e w1 ⟨v1, rfl, ho1, hM1⟩
    have hb1 := Lib.hid ho1.byts
    obtain ⟨a1, c1, rfl, _⟩ := byts_val ho1.byts
    have HM1 := Lib.hid hM1
    clear ho1 hM1
    obtain ⟨m, hm⟩ : ∃ m, m = L.length := ⟨_, rfl⟩
    have HN : Hid ([UInt8.ofNat id, UInt8.ofNat m].length + L.length = m + 2) := by show _ = _; rw [hm]; simp; omega
    have HN2 : Hid (((L.length + 2 : Nat) : Int) ≤ 140737488355328) := by show _ ≤ _; have := HL8.out; omega
    have HO := Lib.hid (own_lit w1 [UInt8.ofNat id, UInt8.ofNat L.length] #[.int .u8 (id : Int), .int .u8 (L.length : Int)] 2 w1.heap.size (by rw [u8_small id (by have := HI.out; omega), u8_small L.length (by have := HL8.out; omega)]; rfl) rfl (by decide) (Nat.le_refl _))
    have HB := Lib.hid (byts_kept hb1.out ((Mod.refl _ w1).alloc (.cells #[.int .u8 (id : Int), .int .u8 (L.length : Int)] 5)))
    have HM2 := Lib.hid ((Mod.refl (fun _ => False) w1).alloc (.cells #[.int .u8 (id : Int), .int .u8 (L.length : Int)] 5))
    rw [← hm] at hb1 w2 HN2 HO HB HM2 ⊢
    have HMm := Lib.hid hm
    clear hm
    go_wp2_with (at_builtin; go_must (refine wpList_append_b rfl (.tmp 15) (.tmp 16) (by rfl) (.slice (some ⟨w1.heap.size, 0, none⟩) 2 2) [UInt8.ofNat id, UInt8.ofNat m] w1.heap.size (m + 2) (by rfl) HO.out _ L (by rfl) HB.out _ rfl HN.out HN2.out HM2.out.size ?_); intro ap5 cp5 W5 hA5)
    go_ret
    refine ⟨_, rfl, ?_, HM1.out.trans (hA5.modF HM2.out (Nat.le_refl _))⟩
    rw [← HMm.out]
    exact hA5.own.mono HM1.out.size
end Go.Proofs.YtacgcpofpmkgnaaDoor
