/- The plain law of headers that are cut off. No program in sight. -/
import Derived.Test.YtolbeamphmoimaaDoorHdX
namespace Go.Proofs.YtolbeamphmoimaaDoor
open Go.RowKit

/-- A reader over bytes that are cut off, beside one over all of them. -/
def Cut (r : List UInt8) (s s' : RS) : Prop := s' = ⟨[], 2⟩ ∨ (s.e = 0 ∧ s'.e = 0 ∧ s.l = s'.l ++ r)
theorem bad_bytes (n : Nat) : RS.bytes ⟨[], 2⟩ n = ([], ⟨[], 2⟩) := by simp [RS.bytes]
theorem bad_byte : RS.byte ⟨[], 2⟩ = (0, ⟨[], 2⟩) := by simp [RS.byte, bad_bytes]
theorem bad_int : RS.int ⟨[], 2⟩ = (0, ⟨[], 2⟩) := by simp [RS.int, RS.fail]
theorem cut_bytes {r : List UInt8} {s s' : RS} (h : Cut r s s') (n : Nat) : (s'.bytes n).2 = ⟨[], 2⟩ ∨ ((s'.bytes n).1 = (s.bytes n).1 ∧ Cut r (s.bytes n).2 (s'.bytes n).2) := by
  rcases h with rfl | ⟨h1, h2, h3⟩
  · left; rw [bad_bytes]
  · by_cases hn : s'.l.length < n
    · left; unfold RS.bytes; rw [if_neg (by simp [h2]), if_pos hn]
    · right
      have hl : ¬ s.l.length < n := by rw [h3, List.length_append]; omega
      simp only [RS.bytes, h1, h2, ne_eq, not_true, if_false, if_neg hl, if_neg hn]
      refine ⟨?_, .inr ⟨rfl, rfl, ?_⟩⟩
      · rw [h3]; exact (List.take_append_of_le_length (by omega)).symm
      · simp only; rw [h3]; exact List.drop_append_of_le_length (by omega)
theorem cut_byte {r : List UInt8} {s s' : RS} (h : Cut r s s') : s'.byte.2 = ⟨[], 2⟩ ∨ (s'.byte.1 = s.byte.1 ∧ Cut r s.byte.2 s'.byte.2) := by
  rcases cut_bytes h 1 with e | ⟨e1, e2⟩
  · exact .inl e
  · exact .inr ⟨by unfold RS.byte; rw [e1], e2⟩
theorem cut_int {r : List UInt8} {s s' : RS} (h : Cut r s s') : s'.int.2 = ⟨[], 2⟩ ∨ (s'.int.1 = s.int.1 ∧ Cut r s.int.2 s'.int.2) := by
  have h0 := h
  rcases h with rfl | ⟨h1, h2, h3⟩
  · left; rw [bad_int]
  · cases hl : s'.l with
    | nil => left; simp [RS.int, hl, RS.fail, h2]
    | cons c t =>
      have hs : s.l = c :: (t ++ r) := by rw [h3, hl]; rfl
      rcases cut_bytes h0 (lenOf c) with e | ⟨e1, e2⟩
      · left
        simp only [RS.int, hl]
        by_cases hlt : s'.l.length < lenOf c
        · rw [if_pos (by simpa [hl] using hlt)]; simp [RS.fail, h2]
        · rw [if_neg (by simpa [hl] using hlt)]; exact e
      · by_cases hlt : s'.l.length < lenOf c
        · left
          simp only [RS.int, hl]
          rw [if_pos (by simpa [hl] using hlt)]; simp [RS.fail, h2]
        · right
          have hlt2 : ¬ s.l.length < lenOf c := by rw [h3, List.length_append]; omega
          simp only [RS.int, hl, hs]
          rw [if_neg (by simpa [hl] using hlt), if_neg (by simpa [hs] using hlt2)]
          exact ⟨by rw [e1], e2⟩
theorem fin_bad (h : Hd) (n : Int) : finL h n 2 = (Hd.zero, 0, 2) := by simp [finL]
/-- A short header that is cut off is none. -/
theorem cut_short {h : Hd} (hr : rightB h = true) (hl : h.long = false) (l' r : List UInt8) (hne : r ≠ []) (e : hputL h = l' ++ r) : parseL l' = (Hd.zero, 0, 2) := by
  obtain ⟨l1, l2, l3, l4, l5, l6⟩ := right_len hr
  obtain ⟨k1, k2, k3, k4, k5⟩ := right_short hr hl
  have e0 := put_short_eq hr hl []
  rw [List.append_nil, List.append_nil, e] at e0
  obtain ⟨p, hp1, hp3⟩ : ∃ p : Nat, p = (if h.phase then 4 else 0) ∧ (p = 0 ∨ p = 4) := ⟨_, rfl, by cases h.phase <;> simp⟩
  rw [← hp1] at e0
  have hc : (UInt8.ofNat (64 + (h.cut.length - 1) + p)).toNat = 64 + (h.cut.length - 1) + p := toNat_of _ (by omega)
  cases l' with
  | nil => rfl
  | cons x t =>
    rw [List.cons_append, List.cons.injEq] at e0
    obtain ⟨rfl, e1⟩ := e0
    have R0 : Cut r ⟨h.dst ++ h.cut, 0⟩ ⟨t, 0⟩ := .inr ⟨rfl, rfl, e1.symm⟩
    unfold parseL
    simp only [byte_cons, hc]
    rw [if_neg (by omega), if_pos (by omega), if_neg (by omega), show (64 + (h.cut.length - 1) + p) % 4 + 1 = h.cut.length by omega]
    have b1 : RS.bytes ⟨h.dst ++ h.cut, 0⟩ 8 = (h.dst, ⟨h.cut, 0⟩) := bytes_app _ _ _ k5
    rcases cut_bytes R0 8 with b | ⟨_, R1⟩
    · rw [b, bad_bytes]; exact fin_bad _ _
    · rw [b1] at R1
      have b2 : RS.bytes ⟨h.cut, 0⟩ h.cut.length = (h.cut, ⟨[], 0⟩) := by have := bytes_app h.cut [] _ rfl; rwa [List.append_nil] at this
      rcases cut_bytes R1 h.cut.length with b | ⟨_, R2⟩
      · rw [b]; exact fin_bad _ _
      · rw [b2] at R2
        rcases R2 with b | ⟨_, _, b⟩
        · rw [b]; exact fin_bad _ _
        · simp at b; exact absurd b.2 hne
/-- A long header that is cut off, or its bytes, is none. -/
theorem cut_long {h : Hd} (hr : rightB h = true) (hl : h.long = true) (z l' r : List UInt8) (hz : (z.length : Int) = h.rest) (hne : r ≠ []) (e : hputL h ++ z = l' ++ r) : parseL l' = (Hd.zero, 0, 2) := by
  obtain ⟨l1, l2, l3, l4, l5, l6⟩ := right_len hr
  obtain ⟨k1, k2, k3⟩ := right_long hr hl
  have hk : h.kind.toNat = 0 ∨ h.kind.toNat = 2 := by rcases k3 with e | ⟨e, _⟩ <;> omega
  have hren : h.rest.toNat = z.length := by omega
  have e0 := put_long_eq hr hl z
  rw [e, hren] at e0
  have hc : (UInt8.ofNat (192 + 16 * h.kind.toNat + (h.cut.length - 1))).toNat = 192 + 16 * h.kind.toNat + (h.cut.length - 1) := toNat_of _ (by omega)
  have i1 : (UInt8.ofNat h.dst.length).toNat = h.dst.length := toNat_of _ (by omega)
  have i2 : (UInt8.ofNat h.src.length).toNat = h.src.length := toNat_of _ (by omega)
  cases l' with
  | nil => rfl
  | cons x t =>
    rw [List.cons_append, List.cons.injEq] at e0
    obtain ⟨rfl, e1⟩ := e0
    unfold parseL
    simp only [byte_cons, hc]
    rw [if_neg (by omega), if_neg (by omega), if_neg (by omega), show (192 + 16 * h.kind.toNat + (h.cut.length - 1)) / 16 % 4 = h.kind.toNat by omega, show (192 + 16 * h.kind.toNat + (h.cut.length - 1)) % 4 + 1 = h.cut.length by omega]
    have R0 : Cut r ⟨_, 0⟩ ⟨t, 0⟩ := .inr ⟨rfl, rfl, e1.symm⟩
    have hu0 : (0 : UInt8).toNat = 0 := rfl
    -- four bytes of a version
    have S1 := cut_bytes R0 4
    rw [bytes_app [_, _, _, _] _ 4 rfl] at S1
    generalize RS.bytes ⟨t, 0⟩ 4 = y1 at *
    obtain ⟨v1, s1⟩ := y1
    simp only at *
    rcases S1 with rfl | ⟨_, R1⟩
    · simp [bad_byte, bad_bytes, bad_int, finL]
    have S2 := cut_byte R1
    rw [byte_cons] at S2
    generalize s1.byte = y2 at *
    obtain ⟨m1, s2⟩ := y2
    simp only at *
    rcases S2 with rfl | ⟨rfl, R2⟩
    · simp [bad_byte, bad_bytes, bad_int, finL]
    have S3 := cut_bytes R2 h.dst.length
    rw [bytes_app h.dst _ _ rfl] at S3
    rw [i1]
    generalize s2.bytes h.dst.length = y3 at *
    obtain ⟨v3, s3⟩ := y3
    simp only at *
    rcases S3 with rfl | ⟨_, R3⟩
    · simp [bad_byte, bad_bytes, bad_int, finL]
    have S4 := cut_byte R3
    rw [byte_cons] at S4
    generalize s3.byte = y4 at *
    obtain ⟨m4, s4⟩ := y4
    simp only at *
    rcases S4 with rfl | ⟨rfl, R4⟩
    · simp [bad_bytes, bad_int, finL]
    have S5 := cut_bytes R4 h.src.length
    rw [bytes_app h.src _ _ rfl] at S5
    rw [i2]
    generalize s4.bytes h.src.length = y5 at *
    obtain ⟨v5, s5⟩ := y5
    simp only at *
    rcases S5 with rfl | ⟨_, R5⟩
    · simp [bad_bytes, bad_int, finL]
    -- the token
    have S7 : ∃ s7 : RS, (if h.kind.toNat = 0 then (s5.int.2.bytes s5.int.1).2 else s5) = s7 ∧ (s7 = ⟨[], 2⟩ ∨ Cut r ⟨putL (h.cut.length + z.length) ++ (h.cut ++ z), 0⟩ s7) := by
      refine ⟨_, rfl, ?_⟩
      by_cases h0 : h.kind = 0
      · rw [if_pos (by omega)]
        rw [if_pos h0, List.append_assoc] at R5
        have S6 := cut_int R5
        rw [int_putL _ _ (by omega)] at S6
        rcases S6 with b | ⟨b1, b2⟩
        · left; rw [b, bad_bytes]
        · simp only at b1 b2
          rw [b1]
          have S6' := cut_bytes b2 h.tok.length
          rw [bytes_app h.tok _ _ rfl] at S6'
          rcases S6' with b | ⟨_, b⟩
          · exact .inl b
          · exact .inr b
      · rw [if_neg (by omega)]
        rw [if_neg h0, List.nil_append] at R5
        exact .inr R5
    obtain ⟨s7, hs7, S7⟩ := S7
    have hs7' : (if h.kind.toNat = 0 then s5.int.2.bytes s5.int.1 else ([], s5)).2 = s7 := by rw [← hs7]; split <;> rfl
    rw [hs7']
    rcases S7 with rfl | R7
    · simp [bad_bytes, bad_int, finL]
    have S8 := cut_int R7
    rw [int_putL _ _ (by omega)] at S8
    generalize s7.int = y8 at *
    obtain ⟨m, s8⟩ := y8
    simp only at *
    rcases S8 with rfl | ⟨rfl, R8⟩
    · rw [if_neg (by simp)]
      split <;> simp [RS.fail, bad_bytes, finL]
    rcases R8 with rfl | ⟨_, e8, R8⟩
    · rw [if_neg (by simp)]
      split <;> simp [RS.fail, bad_bytes, finL]
    have hlt : s8.l.length < h.cut.length + z.length := by
      have h1 := congrArg List.length R8
      simp only [List.length_append] at h1
      have h2 : 0 < r.length := List.length_pos_iff.2 hne
      omega
    rw [if_neg (by omega), if_pos hlt]
    have e9 : s8.fail 2 = ⟨[], 2⟩ := by simp [RS.fail, e8]
    rw [e9, bad_bytes]
    exact fin_bad _ _
end Go.Proofs.YtolbeamphmoimaaDoor
