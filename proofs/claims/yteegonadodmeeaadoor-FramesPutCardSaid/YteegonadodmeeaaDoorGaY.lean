/- The frame that stands there: the program's Next, all kinds. (printed by gengay.py) -/
import Derived.Test.YteegonadodmeeaaDoorGaX
import Derived.Test.YteegonadodmeeaaDoorGaQ
namespace Go.Proofs.YteegonadodmeeaaDoor
open Go.RowKit

theorem entr_1 : Enter 37 := fun _ _ => by kernel_rfl
theorem entr_2 : Enter 39 := fun _ _ => by kernel_rfl
theorem entr_3 : Enter 40 := fun _ _ => by kernel_rfl
theorem entr_4 : Enter 41 := fun _ _ => by kernel_rfl
theorem entr_14 : Enter 52 := fun _ _ => by kernel_rfl
theorem entr_21 : Enter 63 := fun _ _ => by kernel_rfl
theorem entr_24 : Enter 66 := fun _ _ => by kernel_rfl
theorem entr_27 : Enter 70 := fun _ _ => by kernel_rfl
theorem entr_30 : Enter 74 := fun _ _ => by kernel_rfl
theorem entr_35 : Enter 81 := fun _ _ => by kernel_rfl
theorem entr_41 : Enter 88 := fun _ _ => by kernel_rfl
theorem entr_ack : Enter 60 := fun _ _ => by kernel_rfl
theorem rdy_of {f : Fr} (hd : (f.d.length : Int) ≤ 10000000) (hr : f.rs = []) (hk : okKey f.k) : Rdy f := ⟨by omega, by rw [hr]; simp, hk, by intro x hx; rw [hr] at hx; cases hx⟩
theorem bytes_l (s : RS) (n : Nat) {M : Int} (h : (s.l.length : Int) ≤ M) : ((s.bytes n).1.length : Int) ≤ M ∧ ((s.bytes n).2.l.length : Int) ≤ M := by have := bytes_le2 s n; omega
theorem int_l (s : RS) {M : Int} (h : (s.l.length : Int) ≤ M) : (s.int.2.l.length : Int) ≤ M := by have := int_le s; omega
theorem gaps_rng : ∀ (n : Nat) (out : List (Nat × Nat)) (lo : Nat) (s : RS), (∀ x ∈ out, x.1 ≤ 4611686018427387904) → lo ≤ 4611686018427387904 → (readGaps n out lo s).1.length ≤ out.length + n ∧ ∀ x ∈ (readGaps n out lo s).1, x.1 ≤ 4611686018427387904
  | 0, out, lo, s, h, _ => ⟨by simp [readGaps], by simpa [readGaps] using h⟩
  | n + 1, out, lo, s, h, hlo => by
    unfold readGaps
    split
    · exact ⟨by simp, h⟩
    · have ih := gaps_rng n (out ++ [(lo - 2 - s.int.1 - s.int.2.int.1, lo - 2 - s.int.1)]) (lo - 2 - s.int.1 - s.int.2.int.1) s.int.2.int.2 (by
        intro x hx
        rcases List.mem_append.1 hx with hx | hx
        · exact h x hx
        · simp at hx; subst hx; simp only; omega) (by omega)
      refine ⟨?_, ih.2⟩
      have := ih.1
      simp at this ⊢
      omega
theorem ack_rdy (k : Int) (fl : Bool) (s : RS) (hk : okKey k) : Rdy (ackR (Fr.ofKind k fl) s).1 := by
  by_cases h : s.int.2.int.2.int.2.int.2.e ≠ 0 ∨ 16 ≤ s.int.2.int.2.int.1 ∨ s.int.1 < s.int.2.int.2.int.2.int.1
  · rw [ackR_bad h]
    exact rdy_of (by show ((0 : Nat) : Int) ≤ 10000000; decide) rfl hk
  · rw [ackR_good h]
    have hi := int_lt s
    have hg := gaps_rng s.int.2.int.2.int.1 [(s.int.1 - s.int.2.int.2.int.2.int.1, s.int.1)] (s.int.1 - s.int.2.int.2.int.2.int.1) s.int.2.int.2.int.2.int.2 (by intro x hx; simp at hx; subst hx; simp only; omega) (by omega)
    refine ⟨by simp [Fr.setB, Fr.setR, Fr.ofKind], ?_, hk, fun x hx => Nat.le_trans (hg.2 x hx) (by decide)⟩
    have := hg.1
    simp only [List.length_cons, List.length_nil] at this
    show ((readGaps _ _ _ _).1.length : Int) ≤ _
    omega
theorem tokOr_eq (f : Fr) (l : List UInt8) (h : f.t = zeros16) : tokOr f l = f.setT (tokL l) := by
  unfold tokOr tokL
  split
  · rfl
  · rw [← h]; rfl
theorem cid_read (t : Nat) (k : Int) (fl : Bool) (s : RS) : cidR (Fr.ofKind k fl) s = readN t 24 (Fr.ofKind k fl) s := by
  unfold cidR
  simp only
  rw [tokOr_eq _ _ rfl]
  rfl
theorem strm_read (t : Nat) (k : Int) (fl : Bool) (s : RS) : strmL (decide (t / 4 % 2 = 1)) (decide (t / 2 % 2 = 1)) (decide (t % 2 = 1)) (Fr.ofKind k fl) s = readN t 8 (Fr.ofKind k fl) s := by
  show _ = readStreamL t _ s
  unfold strmL readStreamL
  by_cases h4 : t / 4 % 2 = 1 <;> by_cases h2 : t / 2 % 2 = 1 <;> simp [h4, h2] <;> rfl
def closeR (f : Fr) (s : RS) : Fr × RS := bif f.fl then ((f.setC s.int.1).setD (s.int.2.int.2.bytes s.int.2.int.1).1, (s.int.2.int.2.bytes s.int.2.int.1).2) else (((f.setC s.int.1).setA s.int.2.int.1).setD (s.int.2.int.2.int.2.bytes s.int.2.int.2.int.1).1, (s.int.2.int.2.int.2.bytes s.int.2.int.2.int.1).2)
theorem read41 : Reads 88 closeR := by
  intro w rb fb s f vd vr hS hl
  cases hfl : f.fl
  · have := read41f w rb fb s f vd vr hS hfl hl
    unfold closeR
    rw [hfl]
    exact this
  · have := read41t w rb fb s f vd vr hS hfl hl
    unfold closeR
    rw [hfl]
    exact this
theorem close_read (t : Nat) (k : Int) (fl : Bool) (s : RS) : closeR (Fr.ofKind k fl) s = readN t 28 (Fr.ofKind k fl) s := by
  cases fl <;> rfl
theorem known_8 {t : Nat} (h : (knownL t).1 = 8) : 8 ≤ t ∧ t < 16 := by
  unfold knownL at h
  split at h
  · assumption
  · split at h
    · simp at h
    · split at h
      · simp at h; omega
      · split at h
        · simp at h
        · simp at h; omega
theorem known_0 {t : Nat} (h : (knownL t).1 = 0) : t = 0 := by
  unfold knownL at h
  split at h
  · simp at h
  · split at h
    · simp at h
    · split at h
      · simp at h; omega
      · split at h
        · simp at h
        · simp at h; omega
theorem nextF_kind {s : RS} {m : Mk} (he : s.int.2.e = 0) (hm : maskK (knownL s.int.1).1 = some m) : nextF s = nextK s.int.1 (readN s.int.1 (knownL s.int.1).1.toNat (Fr.ofKind (knownL s.int.1).1 (knownL s.int.1).2) s.int.2) := by
  unfold nextF
  rw [if_neg (by simp [he]), if_neg (by rw [hm]; simp)]
theorem next_any {w : World} {rb : Nat} {s : RS} (h : Rdr w rb s) (hl : (s.l.length : Int) ≤ 10000000) : Calls Tryd.prog 34 #[.pointer (some ⟨rb, 0, none⟩)] w (NextR w rb (nextF s)) := by
  by_cases he : s.int.2.e = 0
  · cases hm : maskK (knownL s.int.1).1 with
    | none =>
      have e : nextF s = (Fr.zero, s.int.2.fail 3) := by unfold nextF; rw [if_neg (by simp [he]), if_pos (by rw [hm]; rfl)]
      rw [e]
      exact next_none h he hm
    | some m =>
      rw [nextF_kind he hm]
      have hok : okKey (knownL s.int.1).1 := okKey_small (knownL_rng s.int.1).1 (knownL_rng s.int.1).2
      have hl1 := int_l s hl
      rcases kind_cases hm with hk | hk | hk | hk | hk | hk | hk | hk | hk | hk | hk | hk | hk | hk | hk | hk | hk | hk | hk | hk
      · rw [show (knownL s.int.1).1.toNat = 0 by rw [hk]; rfl]
        exact next_pad h he hk (known_0 hk) (by rw [hk]; rfl) rfl rfl rfl rfl (rdy_of (by show ((0 : Nat) : Int) ≤ 10000000; decide) rfl hok)
      · rw [show (knownL s.int.1).1.toNat = 1 by rw [hk]; rfl]
        exact next_def (rd := fun f s => (f, s)) h he (by omega) (by omega) (by rw [hk]; rfl) rfl entr_14 read14 hl1 (rdy_of (by show ((0 : Nat) : Int) ≤ 10000000; decide) rfl hok)
      · rw [show (knownL s.int.1).1.toNat = 2 by rw [hk]; rfl]
        exact next_def (rd := ackR) h he (by omega) (by omega) (by rw [hk]; rfl) rfl entr_ack (fun _ _ _ _ _ _ _ hS _ => readack hS) hl1 (ack_rdy _ _ _ hok)
      · rw [show (knownL s.int.1).1.toNat = 4 by rw [hk]; rfl]
        exact next_def (rd := fun f s => (((f.setId s.int.1).setC s.int.2.int.1).setA s.int.2.int.2.int.1, s.int.2.int.2.int.2)) h he (by omega) (by omega) (by rw [hk]; rfl) rfl entr_21 read21 hl1 (rdy_of (by show ((0 : Nat) : Int) ≤ 10000000; decide) rfl hok)
      · rw [show (knownL s.int.1).1.toNat = 5 by rw [hk]; rfl]
        exact next_def (rd := fun f s => ((f.setId s.int.1).setC s.int.2.int.1, s.int.2.int.2)) h he (by omega) (by omega) (by rw [hk]; rfl) rfl entr_24 read24 hl1 (rdy_of (by show ((0 : Nat) : Int) ≤ 10000000; decide) rfl hok)
      · rw [show (knownL s.int.1).1.toNat = 6 by rw [hk]; rfl]
        exact next_def (rd := fun f s => ((f.setA s.int.1).setD (s.int.2.int.2.bytes s.int.2.int.1).1, (s.int.2.int.2.bytes s.int.2.int.1).2)) h he (by omega) (by omega) (by rw [hk]; rfl) rfl entr_27 read27 hl1 (rdy_of ((bytes_l _ _ (int_l _ (int_l _ hl1))).1) rfl hok)
      · rw [show (knownL s.int.1).1.toNat = 7 by rw [hk]; rfl]
        exact next_def (rd := fun f s => (f.setD (s.int.2.bytes s.int.1).1, (s.int.2.bytes s.int.1).2)) h he (by omega) (by omega) (by rw [hk]; rfl) rfl entr_30 read30 hl1 (rdy_of ((bytes_l _ _ (int_l _ hl1)).1) rfl hok)
      · have e := strm_read s.int.1 (knownL s.int.1).1 (knownL s.int.1).2 s.int.2
        rw [show (knownL s.int.1).1.toNat = 8 by rw [hk]; rfl, ← e]
        exact next_str h he hk (known_8 hk) (by rw [hk]; rfl) rfl rfl (rdy_of (by unfold strmL; cases decide (s.int.1 / 4 % 2 = 1) <;> cases decide (s.int.1 / 2 % 2 = 1) <;> (simp only [cond_true, cond_false]; first | exact (bytes_l _ _ (int_l _ (int_l _ (int_l _ hl1)))).1 | exact (bytes_l _ _ (int_l _ (int_l _ hl1))).1 | exact (bytes_l _ _ (int_l _ hl1)).1)) rfl hok)
      · rw [show (knownL s.int.1).1.toNat = 16 by rw [hk]; rfl]
        exact next_def (rd := fun f s => (f.setA s.int.1, s.int.2)) h he (by omega) (by omega) (by rw [hk]; rfl) rfl entr_1 read1 hl1 (rdy_of (by show ((0 : Nat) : Int) ≤ 10000000; decide) rfl hok)
      · rw [show (knownL s.int.1).1.toNat = 17 by rw [hk]; rfl]
        exact next_def (rd := fun f s => ((f.setId s.int.1).setA s.int.2.int.1, s.int.2.int.2)) h he (by omega) (by omega) (by rw [hk]; rfl) rfl entr_3 read3 hl1 (rdy_of (by show ((0 : Nat) : Int) ≤ 10000000; decide) rfl hok)
      · rw [show (knownL s.int.1).1.toNat = 18 by rw [hk]; rfl]
        exact next_def (rd := fun f s => (f.setA s.int.1, s.int.2)) h he (by omega) (by omega) (by rw [hk]; rfl) rfl entr_1 read1 hl1 (rdy_of (by show ((0 : Nat) : Int) ≤ 10000000; decide) rfl hok)
      · rw [show (knownL s.int.1).1.toNat = 20 by rw [hk]; rfl]
        exact next_def (rd := fun f s => (f.setA s.int.1, s.int.2)) h he (by omega) (by omega) (by rw [hk]; rfl) rfl entr_1 read1 hl1 (rdy_of (by show ((0 : Nat) : Int) ≤ 10000000; decide) rfl hok)
      · rw [show (knownL s.int.1).1.toNat = 21 by rw [hk]; rfl]
        exact next_def (rd := fun f s => ((f.setId s.int.1).setA s.int.2.int.1, s.int.2.int.2)) h he (by omega) (by omega) (by rw [hk]; rfl) rfl entr_3 read3 hl1 (rdy_of (by show ((0 : Nat) : Int) ≤ 10000000; decide) rfl hok)
      · rw [show (knownL s.int.1).1.toNat = 22 by rw [hk]; rfl]
        exact next_def (rd := fun f s => (f.setA s.int.1, s.int.2)) h he (by omega) (by omega) (by rw [hk]; rfl) rfl entr_1 read1 hl1 (rdy_of (by show ((0 : Nat) : Int) ≤ 10000000; decide) rfl hok)
      · rw [show (knownL s.int.1).1.toNat = 24 by rw [hk]; rfl, ← cid_read]
        exact next_def h he (by omega) (by omega) (by rw [hk]; rfl) rfl entr_35 read35 hl1 (by
          unfold cidR
          simp only
          rw [tokOr_eq _ _ rfl]
          exact rdy_of (bytes_l _ _ (bytes_l _ 1 (int_l _ (int_l _ hl1))).2).1 rfl hok)
      · rw [show (knownL s.int.1).1.toNat = 25 by rw [hk]; rfl]
        exact next_def (rd := fun f s => (f.setId s.int.1, s.int.2)) h he (by omega) (by omega) (by rw [hk]; rfl) rfl entr_2 read2 hl1 (rdy_of (by show ((0 : Nat) : Int) ≤ 10000000; decide) rfl hok)
      · rw [show (knownL s.int.1).1.toNat = 26 by rw [hk]; rfl]
        exact next_def (rd := fun f s => (f.setD (s.bytes 8).1, (s.bytes 8).2)) h he (by omega) (by omega) (by rw [hk]; rfl) rfl entr_4 read4 hl1 (rdy_of ((bytes_l _ _ hl1).1) rfl hok)
      · rw [show (knownL s.int.1).1.toNat = 27 by rw [hk]; rfl]
        exact next_def (rd := fun f s => (f.setD (s.bytes 8).1, (s.bytes 8).2)) h he (by omega) (by omega) (by rw [hk]; rfl) rfl entr_4 read4 hl1 (rdy_of ((bytes_l _ _ hl1).1) rfl hok)
      · rw [show (knownL s.int.1).1.toNat = 28 by rw [hk]; rfl, ← close_read]
        exact next_def h he (by omega) (by omega) (by rw [hk]; rfl) rfl entr_41 read41 hl1 (by
          cases (knownL s.int.1).2
          · exact rdy_of (bytes_l _ _ (int_l _ (int_l _ (int_l _ hl1)))).1 rfl hok
          · exact rdy_of (bytes_l _ _ (int_l _ (int_l _ hl1))).1 rfl hok)
      · rw [show (knownL s.int.1).1.toNat = 30 by rw [hk]; rfl]
        exact next_def (rd := fun f s => (f, s)) h he (by omega) (by omega) (by rw [hk]; rfl) rfl entr_14 read14 hl1 (rdy_of (by show ((0 : Nat) : Int) ≤ 10000000; decide) rfl hok)
  · have e : nextF s = (Fr.zero, s.int.2.fail 3) := by unfold nextF; rw [if_pos he]
    rw [e]
    exact next_bad h he
end Go.Proofs.YteegonadodmeeaaDoor
