/- Plain laws: the frame that bytes begin with; a frame that isn't known is passed over. No program in sight. -/
import Derived.Test.YtcnpiclpdgkngaaDoorFaJ
import Derived.Test.YtcnpiclpdgkngaaDoorFaG
namespace Go.Proofs.YtcnpiclpdgkngaaDoor

theorem bytes_put (b more : List UInt8) : RS.bytes ⟨b ++ more, 0⟩ b.length = (b, ⟨more, 0⟩) := by
  unfold RS.bytes
  rw [if_neg (by simp), if_neg (by simp)]
  simp
/-- The parts that bytes begin with, put one behind the other, are read. -/
theorem int_put (n : Nat) (more : List UInt8) (h : n ≤ topN) : RS.int ⟨putL n ++ more, 0⟩ = (n, ⟨more, 0⟩) := int_putL n more (by unfold topN at h; omega)
theorem pass_next (k : Nat) (b more : List UInt8) (h1 : 14 ≤ k) (h2 : k ≤ 63) (hb : b.length ≤ 63) :
    nextL (UInt8.ofNat k :: UInt8.ofNat b.length :: (b ++ more)) = (HF.zero, b.length + 2, 6) := by
  have e : UInt8.ofNat k :: UInt8.ofNat b.length :: (b ++ more) = putL k ++ (putL b.length ++ (b ++ more)) := by
    rw [putL_small k (by omega), putL_small b.length (by omega)]
    rfl
  rw [e]
  have i1 := int_put k (putL b.length ++ (b ++ more)) (by unfold topN; omega)
  have i2 := int_put b.length (b ++ more) (by unfold topN; omega)
  have i3 := bytes_put b more
  rw [nextL_none (by rw [i1]; unfold isOld; simp; omega) (by rw [i1]; simp only; rw [i2]; simp only; rw [i3]) (by rw [i1]; unfold isKind isData isId; simp; omega)]
  rw [i1]
  simp only
  rw [i2]
  simp only
  rw [i3]
  have l1 : (putL k).length = 1 := by rw [putL_small k (by omega)]; rfl
  have l2 : (putL b.length).length = 1 := by rw [putL_small b.length (by omega)]; rfl
  simp only [List.length_append, l1, l2, Prod.mk.injEq, true_and, and_true]
  omega
end Go.Proofs.YtcnpiclpdgkngaaDoor
