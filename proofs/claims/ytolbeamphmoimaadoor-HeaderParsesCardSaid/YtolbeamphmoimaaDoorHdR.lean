/- The program's Parse, for whatever bytes. -/
import Derived.Test.YtolbeamphmoimaaDoorHdO
import Derived.Test.YtolbeamphmoimaaDoorHdQ0
import Derived.Test.YtolbeamphmoimaaDoorHdQ2
namespace Go.Proofs.YtolbeamphmoimaaDoor
open Go.RowKit

theorem bytes_len (s : RS) (n : Nat) : (s.bytes n).1.length ≤ s.l.length ∧ (s.bytes n).2.l.length ≤ s.l.length := by
  unfold RS.bytes
  split
  · simp
  · split
    · simp
    · exact ⟨by simp; exact Nat.min_le_right _ _, by simp⟩
theorem byte_len (s : RS) : s.byte.2.l.length ≤ s.l.length := (bytes_len s 1).2
theorem fail_len (s : RS) (e : Int) : (s.fail e).l.length ≤ s.l.length := by
  unfold RS.fail; split <;> simp
theorem int_len (s : RS) : s.int.2.l.length ≤ s.l.length := by
  unfold RS.int
  split
  · exact fail_len s 2
  · split
    · exact fail_len s 2
    · exact (bytes_len s _).2

theorem parse_any {w : World} {v : Value} {l : List UInt8} (h : Byts w v l) (hl : (l.length : Int) ≤ 5000) :
    Calls Tryd.prog 19 #[v] w (ParseOut w (parseL l)) := by
  obtain ⟨c, s1, h0⟩ : ∃ c s1, RS.byte ⟨l, 0⟩ = (c, s1) := ⟨_, _, rfl⟩
  have hs1 : s1.l.length ≤ l.length := by have := byte_len ⟨l, 0⟩; rw [h0] at this; exact this
  by_cases hf : s1.e = 0 ∧ c.toNat / 64 % 2 = 0
  · have e : parseL l = (Hd.zero, 0, 3) := by unfold parseL; simp only [h0, if_pos hf]
    rw [e]; exact parse_form h hl h0 hf.1 hf.2
  · have hp : s1.e = 0 → ¬ c.toNat / 64 % 2 = 0 := fun he h6 => hf ⟨he, h6⟩
    by_cases h128 : c.toNat < 128
    · by_cases h8 : c.toNat / 8 % 8 = 0
      · have e := (parse_short h hl h0 hp (by omega) h8 (d := (s1.bytes 8).1) (s2 := (s1.bytes 8).2) rfl (ct := ((s1.bytes 8).2.bytes (c.toNat % 4 + 1)).1) (s3 := ((s1.bytes 8).2.bytes (c.toNat % 4 + 1)).2) rfl)
        have e2 : parseL l = finL ⟨false, decide (c.toNat / 4 % 2 = 1), 0, 0, (s1.bytes 8).1, [], [], ((s1.bytes 8).2.bytes (c.toNat % 4 + 1)).1, (((s1.bytes 8).2.bytes (c.toNat % 4 + 1)).2.l.length : Int)⟩ ((l.length : Int) - ((s1.bytes 8).2.bytes (c.toNat % 4 + 1)).2.l.length) ((s1.bytes 8).2.bytes (c.toNat % 4 + 1)).2.e := by
          unfold parseL; simp only [h0, if_neg hf, if_pos h128, h8, ne_eq, not_true, if_false]
        rw [e2]; exact e
      · have e : parseL l = (Hd.zero, 0, 3) := by unfold parseL; simp only [h0, if_neg hf, if_pos h128, ne_eq, h8, not_false_eq_true, if_true]
        rw [e]; exact parse_still h hl h0 hp (by omega) h8
    · by_cases hq : c.toNat / 4 % 4 = 0
      · rcases (show c.toNat / 16 % 4 = 0 ∨ c.toNat / 16 % 4 = 1 ∨ c.toNat / 16 % 4 = 2 ∨ c.toNat / 16 % 4 = 3 by omega) with hk | hk | hk | hk
        · obtain ⟨vb, s2, y1⟩ : ∃ a b, s1.bytes 4 = (a, b) := ⟨_, _, rfl⟩
          obtain ⟨n1, s3, y2⟩ : ∃ a b, s2.byte = (a, b) := ⟨_, _, rfl⟩
          obtain ⟨D, s4, y3⟩ : ∃ a b, s3.bytes n1.toNat = (a, b) := ⟨_, _, rfl⟩
          obtain ⟨n2, s5, y4⟩ : ∃ a b, s4.byte = (a, b) := ⟨_, _, rfl⟩
          obtain ⟨S, s6, y5⟩ : ∃ a b, s5.bytes n2.toNat = (a, b) := ⟨_, _, rfl⟩
          obtain ⟨tl, s67, y6⟩ : ∃ a b, s6.int = (a, b) := ⟨_, _, rfl⟩
          obtain ⟨T, s7, y7⟩ : ∃ a b, s67.bytes tl = (a, b) := ⟨_, _, rfl⟩
          obtain ⟨m, s8, y8⟩ : ∃ a b, s7.int = (a, b) := ⟨_, _, rfl⟩
          have q1 := (bytes_len s1 4).2
          have q2 := byte_len s2
          have q3 := (bytes_len s3 n1.toNat).2
          have q4 := byte_len s4
          have q5 := (bytes_len s5 n2.toNat).2
          have q6 := int_len s6
          have q7 := bytes_len s67 tl
          have q8 := int_len s7
          rw [y1] at q1; rw [y2] at q2; rw [y3] at q3; rw [y4] at q4; rw [y5] at q5; rw [y6] at q6; rw [y7] at q7; rw [y8] at q8
          simp only at q1 q2 q3 q4 q5 q6 q7 q8
          have e2 : parseL l = longL l c 0 vb D S T m s8 := by
            unfold parseL longL; simp only [h0, if_neg hf, if_neg h128, hq, hk, ne_eq, not_true, false_and, or_false, if_false, if_true, y1, y2, y3, y4, y5, y6, y7, y8]; rfl
          rw [e2]
          exact parse_long0 h hl h0 hp (by omega) hq hk y1 y2 y3 y4 y5 y6 y7 y8 (by omega) (by omega)
        · have e : parseL l = (Hd.zero, 0, 3) := by unfold parseL; simp only [h0, if_neg hf, if_neg h128, hq, hk]; rfl
          rw [e]; exact parse_kind1 h hl h0 hp (by omega) hq hk
        · obtain ⟨vb, s2, y1⟩ : ∃ a b, s1.bytes 4 = (a, b) := ⟨_, _, rfl⟩
          obtain ⟨n1, s3, y2⟩ : ∃ a b, s2.byte = (a, b) := ⟨_, _, rfl⟩
          obtain ⟨D, s4, y3⟩ : ∃ a b, s3.bytes n1.toNat = (a, b) := ⟨_, _, rfl⟩
          obtain ⟨n2, s5, y4⟩ : ∃ a b, s4.byte = (a, b) := ⟨_, _, rfl⟩
          obtain ⟨S, s6, y5⟩ : ∃ a b, s5.bytes n2.toNat = (a, b) := ⟨_, _, rfl⟩
          obtain ⟨m, s8, y8⟩ : ∃ a b, s6.int = (a, b) := ⟨_, _, rfl⟩
          have q1 := (bytes_len s1 4).2
          have q2 := byte_len s2
          have q3 := (bytes_len s3 n1.toNat).2
          have q4 := byte_len s4
          have q5 := (bytes_len s5 n2.toNat).2
          have q8 := int_len s6
          rw [y1] at q1; rw [y2] at q2; rw [y3] at q3; rw [y4] at q4; rw [y5] at q5; rw [y8] at q8
          simp only at q1 q2 q3 q4 q5 q8
          have e2 : parseL l = longL l c 2 vb D S [] m s8 := by
            unfold parseL longL; simp only [h0, if_neg hf, if_neg h128, hq, hk, ne_eq, not_true, and_false, or_false, if_false, show ((2 : Nat) = 0) = False by decide, y1, y2, y3, y4, y5, y8]; rfl
          rw [e2]
          exact parse_long2 h hl h0 hp (by omega) hq hk y1 y2 y3 y4 y5 y8 (by omega)
        · have e : parseL l = (Hd.zero, 0, 3) := by unfold parseL; simp only [h0, if_neg hf, if_neg h128, hq, hk]; rfl
          rw [e]; exact parse_kind3 h hl h0 hp (by omega) hq hk
      · have e : parseL l = (Hd.zero, 0, 3) := by unfold parseL; simp only [h0, if_neg hf, if_neg h128, ne_eq, hq, not_false_eq_true, true_or, if_true]
        rw [e]; exact parse_quiet h hl h0 hp (by omega) hq
end Go.Proofs.YtolbeamphmoimaaDoor
