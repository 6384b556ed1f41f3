/- Plain laws of sections: what is packed is unpacked; two sections joined are one. No program in sight. -/
import Derived.Test.YtcnpiclpdgkngaaDoorFbA
import Derived.Test.YtcnpiclpdgkngaaDoorFaS
import Derived.Test.YtcnpiclpdgkngaaDoorFaT
namespace Go.Proofs.YtcnpiclpdgkngaaDoor

theorem good_len {f : Fd} (h : badFd f = false) : 1 ≤ f.n.length ∧ f.n.length ≤ 60 ∧ f.v.length ≤ 200 := by
  unfold badFd at h
  simp only [Bool.or_eq_false_iff, decide_eq_false_iff_not] at h
  omega
theorem fields_snoc {acc : List Fd} {f : Fd} (h : fieldsB acc = true) (hf : badFd f = false) : fieldsB (acc ++ [f]) = decide (acc.length + 1 ≤ 32) := by
  unfold fieldsB at h ⊢
  simp only [Bool.and_eq_true, Bool.not_eq_true'] at h
  rw [List.any_append, h.2]
  simp [hf]
theorem unpack_sec : ∀ (l : List Fd) (n : Nat) (acc : List Fd), (∀ f ∈ l, badFd f = false) → fieldsB acc = true → 33 < n + acc.length → unpackL n acc ⟨secL l, 0⟩ = if acc.length + l.length ≤ 32 then (acc ++ l, 0) else ([], 3)
  | [], n, acc, _, ha, hn => by
    have h32 := (fds_good ha).1
    obtain ⟨m, rfl⟩ : ∃ m, n = m + 1 := ⟨n - 1, by omega⟩
    rw [unpack_nil (by rfl), if_pos (by simpa using h32), List.append_nil]
  | f :: l, n, acc, hl, ha, hn => by
    have h32 := (fds_good ha).1
    obtain ⟨m, rfl⟩ : ∃ m, n = m + 1 := ⟨n - 1, by omega⟩
    have hf := hl f (by simp)
    obtain ⟨_, h60, h200⟩ := good_len hf
    have e : secL (f :: l) = 32 :: (putL f.n.length ++ (f.n ++ (putL f.v.length ++ (f.v ++ secL l)))) := by simp [secL, fdL, textL]
    have b1 : RS.byte ⟨32 :: (putL f.n.length ++ (f.n ++ (putL f.v.length ++ (f.v ++ secL l)))), 0⟩ = (32, ⟨putL f.n.length ++ (f.n ++ (putL f.v.length ++ (f.v ++ secL l))), 0⟩) := by
      simp [RS.byte, RS.bytes]
    rw [e, unpack_step (by simp) b1 (int_put f.n.length _ (by unfold topN; omega)) (bytes_put f.n _) (int_put f.v.length _ (by unfold topN; omega)) (bytes_put f.v _)]
    rw [if_neg (by simp), if_neg (by simp)]
    show (if fieldsB (acc ++ [f]) = false then _ else unpackL m (acc ++ [f]) _) = _
    rw [fields_snoc ha hf]
    by_cases h : acc.length + 1 ≤ 32
    · rw [if_neg (by simpa using h), unpack_sec l m (acc ++ [f]) (fun g hg => hl g (by simp [hg])) (by rw [fields_snoc ha hf]; simpa using h) (by simp; omega)]
      have e1 : (acc ++ [f]).length + l.length = acc.length + (f :: l).length := by simp; omega
      rw [e1]
      simp [List.append_assoc]
    · rw [if_pos (by simpa using h), if_neg (by simp only [List.length_cons]; omega)]
theorem fields_good {l : List Fd} (h : fieldsB l = true) : ∀ f ∈ l, badFd f = false := by
  unfold fieldsB at h
  simp only [Bool.and_eq_true, Bool.not_eq_true', List.any_eq_false] at h
  intro f hf
  simpa using h.2 f hf
theorem pack_of {l : List Fd} (h : fieldsB l = true) : packL l = secL l := by unfold packL secL; rw [if_pos h]
/-- What is packed is unpacked. -/
theorem unpack_pack {l : List Fd} (h : fieldsB l = true) : unpackL 34 [] ⟨packL l, 0⟩ = (l, 0) := by
  rw [pack_of h, unpack_sec l 34 [] (fields_good h) rfl (by simp), if_pos (by have := (fds_good h).1; simpa using this)]
  rfl
theorem sec_append (l m : List Fd) : secL (l ++ m) = secL l ++ secL m := by simp [secL]
theorem unpack_join {l m : List Fd} (h : fieldsB l = true) (k : fieldsB m = true) : unpackL 34 [] ⟨packL l ++ packL m, 0⟩ = if l.length + m.length ≤ 32 then (l ++ m, 0) else ([], 3) := by
  rw [pack_of h, pack_of k, ← sec_append, unpack_sec (l ++ m) 34 [] (fun f hf => by rcases List.mem_append.1 hf with h' | h'; exact fields_good h f h'; exact fields_good k f h') rfl (by simp)]
  simp
theorem fields_join {l m : List Fd} (h : fieldsB l = true) (k : fieldsB m = true) (hn : l.length + m.length ≤ 32) : fieldsB (l ++ m) = true ∧ packL (l ++ m) = packL l ++ packL m := by
  have e : fieldsB (l ++ m) = true := by
    unfold fieldsB at h k ⊢
    simp only [Bool.and_eq_true, Bool.not_eq_true'] at h k ⊢
    exact ⟨by simpa using hn, by rw [List.any_append, h.2, k.2]; rfl⟩
  exact ⟨e, by rw [pack_of h, pack_of k, pack_of e, sec_append]⟩
theorem pack_size {l : List Fd} (h : fieldsB l = true) : (packL l).length ≤ 8864 := by
  rw [pack_of h]
  have h1 := (fds_good h)
  have := pack_len l (fun f hf => by have := h1.2 f hf; omega)
  omega
end Go.Proofs.YtcnpiclpdgkngaaDoor
