/- Plain laws: a frame that is cut off is none. No program in sight. -/
import Derived.Test.YteegonadodmeeaaDoorGcA
namespace Go.Proofs.YteegonadodmeeaaDoor

/-- A reader over bytes that are cut off, beside one over all of them. -/
def Cut (r : List UInt8) (s s' : RS) : Prop := s' = ⟨[], 2⟩ ∨ (s.e = 0 ∧ s'.e = 0 ∧ s.l = s'.l ++ r)
theorem bad_bytes (n : Nat) : RS.bytes ⟨[], 2⟩ n = ([], ⟨[], 2⟩) := by simp [RS.bytes]
theorem bad_byte : RS.byte ⟨[], 2⟩ = (0, ⟨[], 2⟩) := by simp [RS.byte, bad_bytes]
theorem bad_int : RS.int ⟨[], 2⟩ = (0, ⟨[], 2⟩) := by simp [RS.int, RS.fail]
theorem bad_fail (e : Int) : RS.fail ⟨[], 2⟩ e = ⟨[], 2⟩ := by simp [RS.fail]
theorem cut_bytes {r : List UInt8} {s s' : RS} (h : Cut r s s') (n : Nat) : (s'.bytes n).2 = ⟨[], 2⟩ ∨ ((s'.bytes n).1 = (s.bytes n).1 ∧ Cut r (s.bytes n).2 (s'.bytes n).2) := by
  rcases h with rfl | ⟨h1, h2, h3⟩
  · left; rw [bad_bytes]
  · by_cases hn : s'.l.length < n
    · left; unfold RS.bytes; rw [if_neg (by simp [h2]), if_pos hn]
    · right
      have hl : ¬ s.l.length < n := by rw [h3, List.length_append]; omega
      simp only [RS.bytes, h1, h2, ne_eq, not_true, if_false, if_neg hl, if_neg hn]
      refine ⟨?_, .inr ⟨rfl, rfl, ?_⟩⟩
      · rw [h3]; exact (List.take_append_of_le_length (by omega)).symm
      · simp only; rw [h3]; exact List.drop_append_of_le_length (by omega)
theorem cut_byte {r : List UInt8} {s s' : RS} (h : Cut r s s') : s'.byte.2 = ⟨[], 2⟩ ∨ (s'.byte.1 = s.byte.1 ∧ Cut r s.byte.2 s'.byte.2) := by
  rcases cut_bytes h 1 with e | ⟨e1, e2⟩
  · exact .inl e
  · exact .inr ⟨by unfold RS.byte; rw [e1], e2⟩
theorem cut_int {r : List UInt8} {s s' : RS} (h : Cut r s s') : s'.int.2 = ⟨[], 2⟩ ∨ (s'.int.1 = s.int.1 ∧ Cut r s.int.2 s'.int.2) := by
  have h0 := h
  rcases h with rfl | ⟨h1, h2, h3⟩
  · left; rw [bad_int]
  · cases hl : s'.l with
    | nil => left; simp [RS.int, hl, RS.fail, h2]
    | cons c t =>
      have hs : s.l = c :: (t ++ r) := by rw [h3, hl]; rfl
      rcases cut_bytes h0 (lenOf c) with e | ⟨e1, e2⟩
      · left
        simp only [RS.int, hl]
        by_cases hlt : s'.l.length < lenOf c
        · rw [if_pos (by simpa [hl] using hlt)]; simp [RS.fail, h2]
        · rw [if_neg (by simpa [hl] using hlt)]; exact e
      · by_cases hlt : s'.l.length < lenOf c
        · left
          simp only [RS.int, hl]
          rw [if_pos (by simpa [hl] using hlt)]; simp [RS.fail, h2]
        · right
          have hlt2 : ¬ s.l.length < lenOf c := by rw [h3, List.length_append]; omega
          simp only [RS.int, hl, hs]
          rw [if_neg (by simpa [hl] using hlt), if_neg (by simpa [hs] using hlt2)]
          exact ⟨by rw [e1], e2⟩
theorem cut_i {r : List UInt8} {s s' : RS} (h : Cut r s s') : Cut r s.int.2 s'.int.2 := by
  rcases cut_int h with e | ⟨_, e⟩
  · exact .inl e
  · exact e
theorem cut_b {r : List UInt8} {s s' : RS} (h : Cut r s s') (n : Nat) : Cut r (s.bytes n).2 (s'.bytes n).2 := by
  rcases cut_bytes h n with e | ⟨_, e⟩
  · exact .inl e
  · exact e
theorem cut_d {r : List UInt8} {s s' : RS} (h : Cut r s s') : Cut r (s.int.2.bytes s.int.1).2 (s'.int.2.bytes s'.int.1).2 := by
  rcases cut_int h with e | ⟨e1, e2⟩
  · left; rw [e, bad_bytes]
  · rw [e1]; exact cut_b e2 _
theorem cut_c {r : List UInt8} {s s' : RS} (h : Cut r s s') : Cut r (s.byte.2.bytes s.byte.1.toNat).2 (s'.byte.2.bytes s'.byte.1.toNat).2 := by
  rcases cut_byte h with e | ⟨e1, e2⟩
  · left; rw [e, bad_bytes]
  · rw [e1]; exact cut_b e2 _
theorem cut_end {r : List UInt8} {s s' : RS} (h : Cut r s s') (hs : s = ⟨[], 0⟩) (hr : r ≠ []) : s' = ⟨[], 2⟩ := by
  subst hs
  rcases h with e | ⟨_, _, e⟩
  · exact e
  · exact absurd (List.append_eq_nil_iff.1 e.symm).2 hr
theorem fail_ne (s : RS) : (s.fail 3).e ≠ 0 := by
  unfold RS.fail
  split
  · exact (by decide : (3 : Int) ≠ 0)
  · next h => intro e; exact h ⟨e, by decide⟩
theorem cut_gaps {r : List UInt8} (hr : r ≠ []) : ∀ (n : Nat) (out : List (Nat × Nat)) (lo : Nat) (s s' : RS), Cut r s s' → (readGaps n out lo s).2 = ⟨[], 0⟩ → (readGaps n out lo s').2 = ⟨[], 2⟩
  | 0, out, lo, s, s', h, hs => cut_end h hs hr
  | n + 1, out, lo, s, s', h, hs => by
    have hs' : (if s.int.2.int.2.e ≠ 0 ∨ lo < 2 ∨ lo - 2 < s.int.1 ∨ lo - 2 - s.int.1 < s.int.2.int.1 then (out, s.int.2.int.2.fail 3)
      else readGaps n (out ++ [(lo - 2 - s.int.1 - s.int.2.int.1, lo - 2 - s.int.1)]) (lo - 2 - s.int.1 - s.int.2.int.1) s.int.2.int.2).2 = ⟨[], 0⟩ := hs
    by_cases hc : s.int.2.int.2.e ≠ 0 ∨ lo < 2 ∨ lo - 2 < s.int.1 ∨ lo - 2 - s.int.1 < s.int.2.int.1
    · rw [if_pos hc] at hs'
      exact absurd (congrArg RS.e hs') (fail_ne _)
    · rw [if_neg hc] at hs'
      show (if s'.int.2.int.2.e ≠ 0 ∨ lo < 2 ∨ lo - 2 < s'.int.1 ∨ lo - 2 - s'.int.1 < s'.int.2.int.1 then (out, s'.int.2.int.2.fail 3)
        else readGaps n (out ++ [(lo - 2 - s'.int.1 - s'.int.2.int.1, lo - 2 - s'.int.1)]) (lo - 2 - s'.int.1 - s'.int.2.int.1) s'.int.2.int.2).2 = ⟨[], 2⟩
      rcases cut_int h with e | ⟨e1, e2⟩
      · rw [e, bad_int, if_pos (.inl (by decide)), bad_fail]
      · rcases cut_int e2 with e | ⟨f1, f2⟩
        · rw [e, if_pos (.inl (by decide)), bad_fail]
        · rw [e1, f1]
          by_cases he : s'.int.2.int.2.e = 0
          · rw [if_neg (by
              rintro (h | h)
              · exact h he
              · exact hc (.inr h))]
            exact cut_gaps hr n _ _ _ _ f2 hs'
          · rcases f2 with e | ⟨_, e, _⟩
            · rw [e, if_pos (.inl (by decide)), bad_fail]
            · exact absurd e he
theorem cut_ack {r : List UInt8} (hr : r ≠ []) {f : Fr} {s s' : RS} (h : Cut r s s') (hs : (readAckL f s).2 = ⟨[], 0⟩) : (readAckL f s').2 = ⟨[], 2⟩ := by
  unfold readAckL at hs ⊢
  simp only at hs ⊢
  have h4 := cut_i (cut_i (cut_i (cut_i h)))
  by_cases hc : s.int.2.int.2.int.2.int.2.e ≠ 0 ∨ 16 ≤ s.int.2.int.2.int.1 ∨ s.int.1 < s.int.2.int.2.int.2.int.1
  · rw [if_pos hc] at hs
    exact absurd (congrArg RS.e hs) (fail_ne _)
  · rw [if_neg hc] at hs
    rcases cut_int h with e | ⟨a1, a2⟩
    · rw [e, bad_int, bad_int, bad_int, if_pos (.inl (by decide)), bad_fail]
    · rcases cut_int a2 with e | ⟨b1, b2⟩
      · rw [e, bad_int, bad_int, if_pos (.inl (by decide)), bad_fail]
      · rcases cut_int b2 with e | ⟨c1, c2⟩
        · rw [e, bad_int, if_pos (.inl (by decide)), bad_fail]
        · rcases cut_int c2 with e | ⟨d1, d2⟩
          · rw [e, if_pos (.inl (by decide)), bad_fail]
          · by_cases he : s'.int.2.int.2.int.2.int.2.e = 0
            · rw [a1, c1, d1, if_neg (by
                rintro (h | h)
                · exact h he
                · exact hc (.inr h))]
              simp only at hs ⊢
              exact cut_gaps hr _ _ _ _ _ d2 hs
            · rcases d2 with e | ⟨_, e, _⟩
              · rw [e, if_pos (.inl (by decide)), bad_fail]
              · exact absurd e he
theorem cut_stream {r : List UInt8} (hr : r ≠ []) {t : Nat} {f : Fr} {s s' : RS} (ht : t / 2 % 2 = 1) (h : Cut r s s') (hs : (readStreamL t f s).2 = ⟨[], 0⟩) : (readStreamL t f s').2 = ⟨[], 2⟩ := by
  unfold readStreamL at hs ⊢
  simp only [if_pos ht] at hs ⊢
  by_cases h4 : t / 4 % 2 = 1
  · simp only [if_pos h4] at hs ⊢
    exact cut_end (cut_d (cut_i (cut_i h))) hs hr
  · simp only [if_neg h4] at hs ⊢
    exact cut_end (cut_d (cut_i h)) hs hr
theorem cut_readN {r : List UInt8} (hr : r ≠ []) {t k : Nat} {f : Fr} {s s' : RS} (h0 : k ≠ 0) (h8 : k = 8 → t / 2 % 2 = 1) (h : Cut r s s') (hs : (readN t k f s).2 = ⟨[], 0⟩) : (readN t k f s').2 = ⟨[], 2⟩ := by
  unfold readN at hs ⊢
  split at hs
  · exact absurd rfl h0
  · exact cut_ack hr h hs
  · exact cut_end (cut_i (cut_i (cut_i h))) hs hr
  · exact cut_end (cut_i (cut_i h)) hs hr
  · exact cut_end (cut_d (cut_i h)) hs hr
  · exact cut_end (cut_d h) hs hr
  · exact cut_stream hr (h8 rfl) h hs
  · exact cut_end (cut_i h) hs hr
  · exact cut_end (cut_i (cut_i h)) hs hr
  · exact cut_end (cut_i h) hs hr
  · exact cut_end (cut_i h) hs hr
  · exact cut_end (cut_i (cut_i h)) hs hr
  · exact cut_end (cut_i h) hs hr
  · exact cut_end (cut_b (cut_c (cut_i (cut_i h))) 16) hs hr
  · exact cut_end (cut_i h) hs hr
  · exact cut_end (cut_b h 8) hs hr
  · exact cut_end (cut_b h 8) hs hr
  · simp only at hs ⊢
    by_cases hf : f.fl = true
    · simp only [if_pos hf] at hs ⊢
      exact cut_end (cut_d (cut_i h)) hs hr
    · simp only [if_neg hf] at hs ⊢
      exact cut_end (cut_d (cut_i (cut_i h))) hs hr
  · exact cut_end h hs hr
/-- A FRAME THAT IS CUT OFF IS NONE. -/
theorem cut_next {f : Fr} (h : rightF f = true) (ht : f.t.length = 16) (h0 : f.k ≠ 0) {l r : List UInt8} (hr : r ≠ []) (e : fputL f = l ++ r) : nextF ⟨l, 0⟩ = (Fr.zero, ⟨[], 2⟩) := by
  obtain ⟨k, fl, h1, h2, h3, h4, h8, h5⟩ := put_read h ht [] (fun e => absurd e h0)
  obtain ⟨m, hm, _⟩ := right_parts h
  rw [h1] at hm
  have e1 : fputL f = UInt8.ofNat (tagN f) :: bodyN k f := by
    unfold fputL
    rw [if_pos h, h1]
    rfl
  have hC : Cut r ⟨fputL f, 0⟩ ⟨l, 0⟩ := .inr ⟨rfl, rfl, e⟩
  rw [List.append_nil] at h5
  unfold nextF
  rcases cut_int hC with e2 | ⟨e2, e3⟩
  · rw [e2, if_pos (by decide), bad_fail]
  · rw [e1, tag_put _ _ h2] at e2 e3
    simp only at e2 e3
    have h5' : (readN (tagN f) k (Fr.ofKind (k : Int) fl) ⟨bodyN k f, 0⟩).2 = ⟨[], 0⟩ := congrArg Prod.snd h5
    have e4 := cut_readN hr (by omega) h8 e3 h5'
    by_cases he : (RS.int ⟨l, 0⟩).2.e = 0
    · rw [if_neg (by simp [he]), e2, h4]
      simp only
      rw [hm]
      simp only [Option.isNone_some, Bool.false_eq_true, if_false]
      rw [show ((k : Int)).toNat = k from rfl]
      unfold nextK three
      rw [if_neg h3, e4, if_neg (by simp), bad_fail]
    · rcases e3 with e3 | ⟨_, e3, _⟩
      · rw [e3, if_pos (by decide), bad_fail]
      · exact absurd e3 he
end Go.Proofs.YteegonadodmeeaaDoor
