/- Plain laws: a frame that is put is read again; a number twice is none. No program in sight. -/
import Derived.Test.YtcnpiclpdgkngaaDoorFbA
import Derived.Test.YtcnpiclpdgkngaaDoorFaH
namespace Go.Proofs.YtcnpiclpdgkngaaDoor

theorem readSet_put : ∀ (l : List (Nat × Nat)) (n : Nat) (acc : List (Nat × Nat)), l.length ≤ n → (∀ s ∈ l, s.1 ≤ topN ∧ s.2 ≤ topN) → readSetL n acc ⟨setL l, 0⟩ = (acc ++ l, ⟨[], 0⟩)
  | [], n, acc, _, _ => by
    cases n with
    | zero => simp [readSetL, setL]
    | succ n => simp [readSetL, setL]
  | s :: l, 0, acc, h, _ => by simp at h
  | s :: l, n + 1, acc, h, ho => by
    have hs := ho s (by simp)
    have e : setL (s :: l) = putL s.1 ++ (putL s.2 ++ setL l) := by simp [setL]
    have hp := putL_pos s.1 hs.1
    unfold readSetL
    rw [if_neg (by rw [e]; simp only; intro h0; rw [List.append_eq_nil_iff] at h0; rw [h0.1] at hp; simp at hp), e, int_put s.1 _ hs.1]
    simp only
    rw [int_put s.2 _ hs.2]
    simp only
    rw [readSet_put l n (acc ++ [(s.1, s.2)]) (by simpa using h) (fun x hx => ho x (by simp [hx]))]
    simp
theorem okSet_le {l : List (Nat × Nat)} (h : settingsB l = true) : l.length ≤ 16 ∧ freshB l = true ∧ ∀ s ∈ l, s.1 ≤ topN ∧ s.2 ≤ topN := by
  unfold settingsB at h
  simp only [Bool.and_eq_true, decide_eq_true_eq, List.all_eq_true] at h
  refine ⟨h.2, h.1.2, fun s hs => ?_⟩
  have := h.1.1 s hs
  unfold okSet at this
  simp only [Bool.and_eq_true, decide_eq_true_eq] at this
  exact ⟨this.1.2, this.2⟩
/-- The reading of a right frame's body. -/
theorem readK_put {f : HF} (h : rightH f = true) : readK f.k.toNat (bodyL f) = (f, ⟨[], 0⟩) ∧ isKind f.k.toNat = true ∧ isOld f.k.toNat = false ∧ f.k.toNat ≤ topN ∧ (bodyL f).length ≤ 1000 := by
  obtain ⟨k, id, st, d⟩ := f
  unfold rightH at h
  simp only at h ⊢
  split at h
  · rename_i hd
    simp only [Bool.and_eq_true, decide_eq_true_eq] at h
    obtain ⟨⟨rfl, hst⟩, hl⟩ := h
    obtain rfl := List.eq_nil_of_length_eq_zero hst
    have hk : k = 0 ∨ k = 1 := by unfold isData at hd; simpa using hd
    rcases hk with rfl | rfl
    · exact ⟨rfl, rfl, rfl, by decide, hl⟩
    · exact ⟨rfl, rfl, rfl, by decide, hl⟩
  · split at h
    · rename_i _ h4
      subst h4
      simp only [Bool.and_eq_true, decide_eq_true_eq] at h
      obtain ⟨⟨rfl, hd⟩, hs⟩ := h
      obtain rfl := List.eq_nil_of_length_eq_zero hd
      obtain ⟨hl, _, hle⟩ := okSet_le hs
      have hr := readSet_put st 17 [] (by omega) hle
      refine ⟨?_, rfl, rfl, by decide, ?_⟩
      · show ((⟨4, 0, (readSetL 17 [] ⟨setL st, 0⟩).1, []⟩ : HF), (readSetL 17 [] ⟨setL st, 0⟩).2) = _
        rw [hr]
        rfl
      · show (setL st).length ≤ 1000
        have := setL_len st
        omega
    · split at h
      · rename_i hi
        simp only [Bool.and_eq_true, decide_eq_true_eq] at h
        obtain ⟨hid, h0⟩ := h
        have h0' : d = [] ∧ st = [] := by
          constructor
          · exact List.eq_nil_of_length_eq_zero (by omega)
          · exact List.eq_nil_of_length_eq_zero (by omega)
        obtain ⟨rfl, rfl⟩ := h0'
        have hk : k = 3 ∨ k = 7 ∨ k = 13 := by unfold isId at hi; simp only [Bool.or_eq_true, decide_eq_true_eq] at hi; omega
        have hp : RS.int ⟨putL id, 0⟩ = (id, ⟨[], 0⟩) := by have := int_put id [] hid; simpa using this
        have hln := putL_len id
        rcases hk with rfl | rfl | rfl
        · refine ⟨?_, rfl, rfl, by decide, by show (putL id).length ≤ 1000; omega⟩
          show ((⟨3, (RS.int ⟨putL id, 0⟩).1, [], []⟩ : HF), (RS.int ⟨putL id, 0⟩).2) = _
          rw [hp]
        · refine ⟨?_, rfl, rfl, by decide, by show (putL id).length ≤ 1000; omega⟩
          show ((⟨7, (RS.int ⟨putL id, 0⟩).1, [], []⟩ : HF), (RS.int ⟨putL id, 0⟩).2) = _
          rw [hp]
        · refine ⟨?_, rfl, rfl, by decide, by show (putL id).length ≤ 1000; omega⟩
          show ((⟨13, (RS.int ⟨putL id, 0⟩).1, [], []⟩ : HF), (RS.int ⟨putL id, 0⟩).2) = _
          rw [hp]
      · cases h
theorem put_next {f : HF} (h : rightH f = true) (more : List UInt8) : nextL (hfputL f ++ more) = (f, (hfputL f).length, 0) := by
  obtain ⟨hr, hk, ho, ht, hb⟩ := readK_put h
  have e0 : hfputL f = putL f.k.toNat ++ putL (bodyL f).length ++ bodyL f := by unfold hfputL; rw [if_pos h]
  have e : hfputL f ++ more = putL f.k.toNat ++ (putL (bodyL f).length ++ (bodyL f ++ more)) := by rw [e0]; simp [List.append_assoc]
  have hl : (hfputL f ++ more).length - more.length = (hfputL f).length := by simp
  have i1 := int_put f.k.toNat (putL (bodyL f).length ++ (bodyL f ++ more)) ht
  have i2 := int_put (bodyL f).length (bodyL f ++ more) (by unfold topN; omega)
  have i3 := bytes_put (bodyL f) more
  rw [← e] at i1
  rw [nextL_kind (by rw [i1]; exact ho) (by rw [i1]; simp only; rw [i2]; simp only; rw [i3]) (by rw [i1]; exact hk), i1]
  simp only
  rw [i2]
  simp only
  rw [i3]
  simp only
  unfold nextE
  rw [hr]
  simp only
  rw [if_neg (by simp [h]), hl]
theorem hput_len {f : HF} (h : rightH f = true) : 2 ≤ (hfputL f).length ∧ (hfputL f).length ≤ 1016 := by
  obtain ⟨_, _, _, ht, hb⟩ := readK_put h
  have e0 : hfputL f = putL f.k.toNat ++ putL (bodyL f).length ++ bodyL f := by unfold hfputL; rw [if_pos h]
  have h1 := putL_pos _ ht
  have h2 := putL_pos (bodyL f).length (by unfold topN; omega)
  have h3 := putL_len f.k.toNat
  have h4 := putL_len (bodyL f).length
  rw [e0]
  simp only [List.length_append]
  omega
theorem sameHF_self (f : HF) : sameHF f f = true := by simp [sameHF]
/-- Put and cut short. -/
theorem put_cut {f : HF} (h : rightH f = true) : nextL ((hfputL f).take ((hfputL f).length - 1)) = (HF.zero, 0, 2) := by
  obtain ⟨_, hk, ho, ht, hb⟩ := readK_put h
  have e0 : hfputL f = putL f.k.toNat ++ (putL (bodyL f).length ++ bodyL f) := by unfold hfputL; rw [if_pos h, List.append_assoc]
  have hp1 := putL_pos _ ht
  have hp2 := putL_pos (bodyL f).length (by unfold topN; omega)
  by_cases hB : bodyL f = []
  · -- the length's one byte is cut off
    have e1 : (hfputL f).take ((hfputL f).length - 1) = putL f.k.toNat ++ [] := by
      rw [e0, hB]
      have h1 : putL ([] : List UInt8).length = [0] := putL_small 0 (by omega)
      rw [h1]
      simp
    have i1 := int_put f.k.toNat [] ht
    rw [← e1] at i1
    have hn : RS.int ⟨[], 0⟩ = (0, ⟨[], 2⟩) := rfl
    rw [nextL_short (by rw [i1]; exact ho) (by rw [i1]; simp only; rw [hn]; simp [RS.bytes])]
  · have hb0 : 0 < (bodyL f).length := by
      cases hx : bodyL f with
      | nil => exact absurd hx hB
      | cons c r => simp
    have e1 : (hfputL f).take ((hfputL f).length - 1) = putL f.k.toNat ++ (putL (bodyL f).length ++ (bodyL f).take ((bodyL f).length - 1)) := by
      rw [e0]
      simp only [List.length_append]
      rw [List.take_append, List.take_of_length_le (by omega), List.take_append, List.take_of_length_le (by omega)]
      congr 3
      omega
    have i1 := int_put f.k.toNat (putL (bodyL f).length ++ (bodyL f).take ((bodyL f).length - 1)) ht
    have i2 := int_put (bodyL f).length ((bodyL f).take ((bodyL f).length - 1)) (by unfold topN; omega)
    rw [← e1] at i1
    have hn : (RS.bytes ⟨(bodyL f).take ((bodyL f).length - 1), 0⟩ (bodyL f).length) = ([], ⟨[], 2⟩) := by
      unfold RS.bytes
      rw [if_neg (by simp), if_pos (by simp; omega)]
    rw [nextL_short (by rw [i1]; exact ho) (by rw [i1]; simp only; rw [i2]; simp only; rw [hn]; simp)]
theorem fresh_snoc : ∀ (l : List (Nat × Nat)) (t : Nat × Nat), t ∈ l → freshB (l ++ [t]) = false
  | s :: l, t, h => by
    rcases List.mem_cons.1 h with rfl | h
    · show (!((l ++ [t]).any fun u => u.1 == t.1) && freshB (l ++ [t])) = false
      simp
    · show (!((l ++ [t]).any fun u => u.1 == s.1) && freshB (l ++ [t])) = false
      rw [fresh_snoc l t h]
      simp
theorem twice_none (l : List (Nat × Nat)) (t : Nat × Nat) (h : t ∈ l) : rightH ⟨4, 0, l ++ [t], []⟩ = false ∧ hfputL ⟨4, 0, l ++ [t], []⟩ = [] := by
  have h1 : rightH ⟨4, 0, l ++ [t], []⟩ = false := by
    show (decide ((0 : Nat) = 0) && decide (([] : List UInt8).length = 0) && settingsB (l ++ [t])) = false
    unfold settingsB
    rw [fresh_snoc l t h]
    simp
  exact ⟨h1, by unfold hfputL; rw [h1]; simp⟩
end Go.Proofs.YtcnpiclpdgkngaaDoor
