/- UTF-8: what a decoder hands out at the head of bytes (plain). -/
import Derived.Lib.DecodeN
import Derived.Shelf.Unicode.DecodeLastEight
import Derived.Test.YtcnpiclpdgkngaaDoorFaB
namespace Go.Proofs.YtcnpiclpdgkngaaDoor
open Go.Lib

theorem dec_get (m : List UInt8) (k : Nat) (x : UInt8) (h : m[k]? = some x) : (ByteArray.mk m.toArray).get! k = x := by
  have hk := (List.getElem?_eq_some_iff.1 h)
  obtain ⟨hk, rfl⟩ := hk
  show (m.toArray)[k]! = _
  simp [hk]
theorem decodeN_tail (n b0 b1 b2 b3 : Nat) (h : ¬ b0 < 128) : 128 ≤ (decodeN n b0 b1 b2 b3).1 ∧ 1 ≤ (decodeN n b0 b1 b2 b3).2 ∧ ((decodeN n b0 b1 b2 b3).2 = 1 ∨ ((decodeN n b0 b1 b2 b3).2 = 2 ∧ 1 < n ∧ 128 ≤ b1) ∨ ((decodeN n b0 b1 b2 b3).2 = 3 ∧ 2 < n ∧ 128 ≤ b1 ∧ 128 ≤ b2) ∨ ((decodeN n b0 b1 b2 b3).2 = 4 ∧ 3 < n ∧ 128 ≤ b1 ∧ 128 ≤ b2 ∧ 128 ≤ b3)) := by
  unfold decodeN
  rw [if_neg h]
  split
  · split
    · refine ⟨by simp only; omega, by simp, .inr (.inl ⟨rfl, by omega, by omega⟩)⟩
    · exact ⟨by simp, by simp, .inl rfl⟩
  · split
    · split
      · refine ⟨by simp only; omega, by simp, .inr (.inr (.inl ⟨rfl, by omega, by omega, by omega⟩))⟩
      · exact ⟨by simp, by simp, .inl rfl⟩
    · split
      · split
        · refine ⟨by simp only; omega, by simp, .inr (.inr (.inr ⟨rfl, by omega, by omega, by omega, by omega⟩))⟩
        · exact ⟨by simp, by simp, .inl rfl⟩
      · exact ⟨by simp, by simp, .inl rfl⟩
theorem dec_size (m : List UInt8) : (ByteArray.mk m.toArray).size = m.length := by simp [ByteArray.size]
theorem dec_ascii (m : List UInt8) (x : UInt8) (h : m[0]? = some x) (ha : x.toNat < 128) : decodeGo ⟨m.toArray⟩ = (x.toNat, 1) := by
  have h0 := dec_get m 0 x h
  have hl := (List.getElem?_eq_some_iff.1 h).1
  unfold decodeGo
  rw [if_neg (by rw [dec_size]; omega), decode_at, h0]
  unfold decodeN
  rw [if_pos ha]
theorem dec_high (m : List UInt8) (x : UInt8) (h : m[0]? = some x) (ha : ¬ x.toNat < 128) :
    128 ≤ (decodeGo ⟨m.toArray⟩).1 ∧ 1 ≤ (decodeGo ⟨m.toArray⟩).2 ∧ (decodeGo ⟨m.toArray⟩).2 ≤ m.length ∧ ∀ j y, j < (decodeGo ⟨m.toArray⟩).2 → m[j]? = some y → 128 ≤ y.toNat := by
  have h0 := dec_get m 0 x h
  have hl := (List.getElem?_eq_some_iff.1 h).1
  have e : decodeGo ⟨m.toArray⟩ = decodeN m.length x.toNat ((ByteArray.mk m.toArray).get! 1).toNat ((ByteArray.mk m.toArray).get! 2).toNat ((ByteArray.mk m.toArray).get! 3).toNat := by
    unfold decodeGo
    rw [if_neg (by rw [dec_size]; omega), decode_at, h0, dec_size]
    rfl
  obtain ⟨k1, k2, k3⟩ := decodeN_tail m.length x.toNat ((ByteArray.mk m.toArray).get! 1).toNat ((ByteArray.mk m.toArray).get! 2).toNat ((ByteArray.mk m.toArray).get! 3).toNat ha
  rw [← e] at k1 k2 k3
  generalize decodeGo ⟨m.toArray⟩ = d at *
  refine ⟨k1, k2, by omega, fun j y hj hy => ?_⟩
  have g := dec_get m j y hy
  have hj4 : j = 0 ∨ j = 1 ∨ j = 2 ∨ j = 3 := by omega
  rcases hj4 with rfl | rfl | rfl | rfl
  · rw [h] at hy
    obtain rfl := Option.some.inj hy
    omega
  all_goals (rw [g] at k3; omega)
end Go.Proofs.YtcnpiclpdgkngaaDoor
