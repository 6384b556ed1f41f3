/- The contract of the program's Peek. -/
import Derived.Test.YtolbeamphmoimaaDoorHdK
namespace Go.Proofs.YtolbeamphmoimaaDoor
open Go.RowKit

theorem peek_eq (l : List UInt8) {c : UInt8} {s1 s2 : RS} {n : Nat} {x : List UInt8 × RS} (h0 : RS.byte ⟨l, 0⟩ = (c, s1)) (h1 : (if 128 ≤ c.toNat then (((s1.bytes 4).2.byte).1.toNat, ((s1.bytes 4).2.byte).2) else (8, s1)) = (n, s2)) (h2 : s2.bytes n = x) :
    peekL l = if x.2.e ≠ 0 ∨ c.toNat / 64 % 2 = 0 ∨ 20 < n then ([], false, false) else (x.1, decide (128 ≤ c.toNat), true) := by
  unfold peekL
  simp only [h0, h1, h2]
theorem peek_out {w : World} {a : Option Addr} {cp : Nat} {L : List UInt8} {B : Nat} (h : OwnB w B (.slice a L.length cp) L) : Byts w (.slice a L.length cp) L := h.byts

set_option maxHeartbeats 2000000 in
set_option maxRecDepth 10000 in
theorem peek_any {w : World} {v : Value} {l : List UInt8} (h : Byts w v l) (hl : (l.length : Int) ≤ 5000) :
    Calls Tryd.prog 21 #[v] w fun e w' => ∃ v', e = .returned (.tuple #[v', .bool (peekL l).2.1, .bool (peekL l).2.2]) ∧ Byts w' v' (peekL l).1 ∧ Mod (fun _ => False) w w' := by
  have H := Lib.hid h
  have HL := Lib.hid hl
  obtain ⟨a0, c0, rfl, _⟩ := byts_val h
  obtain ⟨R, hR⟩ : ∃ R, R = peekL l := ⟨_, rfl⟩
  rw [← hR]
  have HR := Lib.hid hR
  obtain ⟨c, s1, h0⟩ : ∃ c s1, RS.byte ⟨l, 0⟩ = (c, s1) := ⟨_, _, rfl⟩
  have H0 := Lib.hid h0
  have hc := c.toNat_lt
  have hci : (c.toNat : Int) < 256 := by omega
  obtain ⟨_, t64, t128, _⟩ := bits_and c
  have T64 := Lib.hid t64
  clear h hl hR h0 hc t64
  by_cases hg : 128 ≤ c.toNat
  · have HG := Lib.hid hg
    rw [decide_eq_true hg] at t128
    obtain ⟨x, s2, hx⟩ : ∃ x s2, (s1.bytes 4).2.byte = (x, s2) := ⟨_, _, rfl⟩
    obtain ⟨y, hy⟩ : ∃ y, s2.bytes x.toNat = y := ⟨_, rfl⟩
    have HE := Lib.hid (peek_eq l (n := x.toNat) (s2 := s2) H0.out (by rw [if_pos hg, hx]) hy)
    have HX := Lib.hid hx
    have HY := Lib.hid hy
    have hxl := x.toNat_lt
    have hxi : (x.toNat : Int) < 256 := by omega
    clear hg hx hy hxl
    go_enter Tryd.func21, Tryd.ntmps21
    go_wp2_with fail
    refine (read_any H.out (by have := HL.out; omega)).mono ?_
    rintro e w1 ⟨rb, rfl, hrb, hr, hM1⟩
    go_wp2_with fail
    refine (byte_any hr).mono ?_
    rintro e w2 ⟨rfl, hr2, hM2⟩
    rw [H0.out] at hr2 ⊢
    simp only at hr2 ⊢
    go_wp2_with fail
    refine (bytes_any 4 hr2).mono ?_
    rintro e w3 ⟨v3, rfl, ho3, hr3, hM3⟩
    go_wp2_with fail
    refine (byte_any hr3).mono ?_
    rintro e w4 ⟨rfl, hr4, hM4⟩
    rw [HX.out] at hr4 ⊢
    simp only at hr4 ⊢
    go_wp2_with fail
    refine (bytes_any x.toNat hr4).mono ?_
    rintro e w5 ⟨v5, rfl, ho5, hr5, hM5⟩
    rw [HY.out] at ho5 hr5
    have HO5 := Lib.hid ho5
    obtain ⟨a5, cp5, rfl, _⟩ := byts_val ho5.byts
    have hM := Lib.hid ((((hM1.mono (T := fun k => w.heap.size ≤ k) (fun _ _ h => h.elim)).trans' ((((hM2.trans hM3).trans hM4).trans hM5)) (fun i hi e => by have e' : i = rb := e; omega)).mono (T := fun _ => False) (fun i hi h => by have h' : w.heap.size ≤ i := h; omega)))
    clear ho5
    go_wp2_with fail
    refine (bad_any hr5).mono ?_
    rintro e w6 ⟨rfl, rfl⟩
    by_cases he : y.2.e = 0
    · have tb : (y.2.e != 0) = false := by simp [he]
      by_cases h6 : c.toNat / 64 % 2 = 0
      · rw [decide_eq_true h6] at T64
        have t64 := T64.out
        clear he
        have HE2 : Hid (R = ([], false, false)) := by show _ = _; rw [HR.out, HE.out, if_pos (.inr (.inl h6))]
        clear h6
        go_wp2_with fail
        go_ret3
        rw [HE2.out]
        exact ⟨_, rfl, Sl.nil _ _, hM.out⟩
      · rw [decide_eq_false h6] at T64
        have t64 := T64.out
        by_cases h20 : 20 < x.toNat
        · have HE2 : Hid (R = ([], false, false)) := by show _ = _; rw [HR.out, HE.out, if_pos (.inr (.inr h20))]
          have h20i : (20 : Int) < x.toNat := by omega
          clear h20 he h6
          go_wp2_with fail
          go_ret3
          rw [HE2.out]
          exact ⟨_, rfl, Sl.nil _ _, hM.out⟩
        · have HE2 : Hid (R = (y.1, true, true)) := by show _ = _; rw [HR.out, HE.out, if_neg (by simp [he, h6]; omega), decide_eq_true HG.out]
          have h20i : (x.toNat : Int) ≤ 20 := by omega
          clear h20 he h6
          go_wp2_with fail
          go_ret3
          rw [HE2.out]
          exact ⟨_, rfl, HO5.out.byts, hM.out⟩
    · have tb : (y.2.e != 0) = true := by simp [he]
      have HE2 : Hid (R = ([], false, false)) := by show _ = _; rw [HR.out, HE.out, if_pos (.inl he)]
      clear he
      go_wp2_with fail
      go_ret3
      rw [HE2.out]
      exact ⟨_, rfl, Sl.nil _ _, hM.out⟩
  · have HG := Lib.hid hg
    rw [decide_eq_false hg] at t128
    obtain ⟨y, hy⟩ : ∃ y, s1.bytes 8 = y := ⟨_, rfl⟩
    have HE := Lib.hid (peek_eq l (n := 8) (s2 := s1) H0.out (by rw [if_neg hg]) hy)
    have HY := Lib.hid hy
    clear hg hy
    go_enter Tryd.func21, Tryd.ntmps21
    go_wp2_with fail
    refine (read_any H.out (by have := HL.out; omega)).mono ?_
    rintro e w1 ⟨rb, rfl, hrb, hr, hM1⟩
    go_wp2_with fail
    refine (byte_any hr).mono ?_
    rintro e w2 ⟨rfl, hr2, hM2⟩
    rw [H0.out] at hr2 ⊢
    simp only at hr2 ⊢
    go_wp2_with fail
    refine (bytes_any 8 hr2).mono ?_
    rintro e w5 ⟨v5, rfl, ho5, hr5, hM5⟩
    rw [HY.out] at ho5 hr5
    have HO5 := Lib.hid ho5
    obtain ⟨a5, cp5, rfl, _⟩ := byts_val ho5.byts
    have hM := Lib.hid ((((hM1.mono (T := fun k => w.heap.size ≤ k) (fun _ _ h => h.elim)).trans' (hM2.trans hM5) (fun i hi e => by have e' : i = rb := e; omega)).mono (T := fun _ => False) (fun i hi h => by have h' : w.heap.size ≤ i := h; omega)))
    clear ho5
    go_wp2_with fail
    refine (bad_any hr5).mono ?_
    rintro e w6 ⟨rfl, rfl⟩
    by_cases he : y.2.e = 0
    · have tb : (y.2.e != 0) = false := by simp [he]
      by_cases h6 : c.toNat / 64 % 2 = 0
      · rw [decide_eq_true h6] at T64
        have t64 := T64.out
        clear he
        have HE2 : Hid (R = ([], false, false)) := by show _ = _; rw [HR.out, HE.out, if_pos (.inr (.inl h6))]
        clear h6
        go_wp2_with fail
        go_ret3
        rw [HE2.out]
        exact ⟨_, rfl, Sl.nil _ _, hM.out⟩
      · rw [decide_eq_false h6] at T64
        have t64 := T64.out
        have HE2 : Hid (R = (y.1, false, true)) := by show _ = _; rw [HR.out, HE.out, if_neg (by simp [he, h6]), decide_eq_false HG.out]
        clear he h6
        go_wp2_with fail
        go_ret3
        rw [HE2.out]
        exact ⟨_, rfl, HO5.out.byts, hM.out⟩
    · have tb : (y.2.e != 0) = true := by simp [he]
      have HE2 : Hid (R = ([], false, false)) := by show _ = _; rw [HR.out, HE.out, if_pos (.inl he)]
      clear he
      go_wp2_with fail
      go_ret3
      rw [HE2.out]
      exact ⟨_, rfl, Sl.nil _ _, hM.out⟩
end Go.Proofs.YtolbeamphmoimaaDoor
