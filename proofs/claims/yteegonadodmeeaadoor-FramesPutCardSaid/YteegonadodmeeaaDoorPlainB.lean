/- Plain mathematics of integers as bytes: what is put is read again; the order of the bytes is the order of the integers. No program in sight. -/
import Derived.Test.YteegonadodmeeaaDoorPlain
import Derived.WalkLawsBesides
namespace Go.Proofs.YteegonadodmeeaaDoor

theorem fold_be (k n a : Nat) : (be k n).foldl (fun m x => m * 256 + x.toNat) a = a * 256 ^ k + n % 256 ^ k := by
  induction k generalizing n with
  | zero => simp [be, Nat.mod_one]
  | succ k ih =>
    rw [be, List.foldl_append, ih, Nat.pow_succ, Nat.mul_comm (256 ^ k) 256, Nat.mod_mul]
    simp only [List.foldl_cons, List.foldl_nil]
    have : (UInt8.ofNat n).toNat = n % 256 := by simp
    rw [this, Nat.mul_comm 256 (256 ^ k), ← Nat.mul_assoc, Nat.add_mul]
    omega
theorem two_tg (s : Nat) (h : s = 1 ∨ s = 2 ∨ s = 4 ∨ s = 8) : 2 ^ tg s = s := by rcases h with rfl | rfl | rfl | rfl <;> rfl
theorem wd_length (n s : Nat) : (wd n s).length = s := by simp [wd]
theorem mod_tag (x t : Nat) (hx : x < 64) : (x + 64 * t) % 64 = x := by omega
theorem div_tag (x t : Nat) (hx : x < 64) : (x + 64 * t) / 64 = t := by omega
theorem toNat_tag (x t : Nat) (hx : x < 64) (ht : t < 4) : (UInt8.ofNat (x + 64 * t)).toNat = x + 64 * t := UInt8.toNat_ofNat_of_lt' (by show _ < 256; omega)
theorem val_wd (n s : Nat) (h : fits n (s : Int) = true) : valOf (wd n s) = n := by
  obtain ⟨h1, h8, hn, hs⟩ := fits_bound n s h
  obtain ⟨e, hx⟩ := wd_first n s h1 hn (tg_lt s)
  have ht := tg_lt s
  rw [e]
  have hc := toNat_tag _ _ hx ht
  simp only [valOf, hc]
  rw [fold_be, mod_tag _ _ hx, Nat.mul_comm]
  exact Nat.div_add_mod n _
theorem int_wd (n s : Nat) (more : List UInt8) (h : fits n (s : Int) = true) : RS.int ⟨wd n s ++ more, 0⟩ = (n, ⟨more, 0⟩) := by
  obtain ⟨h1, h8, hn, hs⟩ := fits_bound n s h
  obtain ⟨e, hx⟩ := wd_first n s h1 hn (tg_lt s)
  have ht := tg_lt s
  have hc := toNat_tag _ _ hx ht
  have hl : lenOf (UInt8.ofNat (n / 256 ^ (s - 1) + 64 * tg s)) = s := by
    unfold lenOf
    rw [hc, div_tag _ _ hx, two_tg s hs]
  have hlen := wd_length n s
  have hb : RS.bytes ⟨wd n s ++ more, 0⟩ s = (wd n s, ⟨more, 0⟩) := by
    unfold RS.bytes
    rw [if_neg (by simp), if_neg (by simp [hlen])]
    simp [hlen]
  have hv := val_wd n s h
  have hw : wd n s ++ more = UInt8.ofNat (n / 256 ^ (s - 1) + 64 * tg s) :: (be (s - 1) n ++ more) := by rw [e]; rfl
  unfold RS.int
  split
  · rename_i h0; simp only at h0; rw [hw] at h0; simp at h0
  · rename_i c r h0
    simp only at h0
    rw [hw] at h0
    obtain ⟨rfl, _⟩ := List.cons.inj h0
    rw [hl, if_neg (by simp [hlen]), hb, hv]
theorem fits_self (n : Nat) (h : n < 4611686018427387904) : fits n (szN n : Int) = true := by
  rw [fits_iff]
  rcases szN_cases n with h' | h' | h' | h' | h' <;> omega
theorem putL_eq (n : Nat) (h : n < 4611686018427387904) : putL n = wd n (szN n) := by simp [putL, wideL, fits_self n h]
theorem putL_none (n : Nat) (h : 4611686018427387904 ≤ n) : putL n = [] := by
  have : szN n = 0 := by rcases szN_cases n with h' | h' | h' | h' | h' <;> omega
  exact List.eq_nil_of_length_eq_zero (by rw [putL_length, this])
theorem int_putL (n : Nat) (more : List UInt8) (h : n < 4611686018427387904) : RS.int ⟨putL n ++ more, 0⟩ = (n, ⟨more, 0⟩) := by
  rw [putL_eq n h]; exact int_wd n _ more (fits_self n h)
theorem szN_least (n : Nat) (size : Int) (h : fits n size = true) : (szN n : Int) ≤ size := ((fits_sz n size).1 h).2.1
theorem szN_mono (a b : Nat) (h : a ≤ b) (hb : szN b ≠ 0) : szN a ≤ szN b := by
  rcases szN_cases a with h' | h' | h' | h' | h' <;> rcases szN_cases b with h'' | h'' | h'' | h'' | h'' <;> omega

theorem pow_mod_succ (s m : Nat) : m % 256 ^ (s + 1) = (m / 256 ^ s % 256) * 256 ^ s + m % 256 ^ s := by
  rw [Nat.pow_succ, Nat.mod_mul, Nat.mul_comm (256 ^ s)]; omega
theorem be_less (s m n : Nat) : Op.bytesLess (be s m) (be s n) = decide (m % 256 ^ s < n % 256 ^ s) := by
  induction s with
  | zero => simp [be, Op.bytesLess, Nat.mod_one]
  | succ s ih =>
    rw [be_front, be_front, Op.bytesLess, ih, pow_mod_succ s m, pow_mod_succ s n]
    have hm : m % 256 ^ s < 256 ^ s := Nat.mod_lt _ (Nat.pow_pos (by omega))
    have hn : n % 256 ^ s < 256 ^ s := Nat.mod_lt _ (Nat.pow_pos (by omega))
    have e1 : (UInt8.ofNat (m / 256 ^ s) < UInt8.ofNat (n / 256 ^ s)) ↔ m / 256 ^ s % 256 < n / 256 ^ s % 256 := by
      rw [UInt8.lt_iff_toNat_lt]; simp
    have e2 : (UInt8.ofNat (m / 256 ^ s) == UInt8.ofNat (n / 256 ^ s)) = decide (m / 256 ^ s % 256 = n / 256 ^ s % 256) := by
      rw [Bool.eq_iff_iff]; simp [← UInt8.toNat_inj]
    rw [e2]
    generalize m / 256 ^ s % 256 = x at *
    generalize n / 256 ^ s % 256 = y at *
    generalize m % 256 ^ s = u at *
    generalize n % 256 ^ s = v at *
    generalize 256 ^ s = p at *
    rw [Bool.eq_iff_iff]
    simp only [Bool.or_eq_true, Bool.and_eq_true, decide_eq_true_eq, e1]
    constructor
    · rintro (h | ⟨h, h'⟩)
      · have : (x + 1) * p ≤ y * p := Nat.mul_le_mul_right _ h
        rw [Nat.add_mul] at this; omega
      · subst h; omega
    · intro h
      rcases Nat.lt_trichotomy x y with h1 | h1 | h1
      · exact .inl h1
      · subst h1; exact .inr ⟨rfl, by omega⟩
      · exfalso
        have : (y + 1) * p ≤ x * p := Nat.mul_le_mul_right _ h1
        rw [Nat.add_mul] at this; omega
theorem be_inj (s m n : Nat) (h : be s m = be s n) : m % 256 ^ s = n % 256 ^ s := by rw [← un_be, ← un_be, h]
theorem wd_small (n s : Nat) (h : fits n (s : Int) = true) : n + tg s * 2 ^ (8 * s - 2) < 256 ^ s := by
  rw [fits_iff] at h
  rcases h with ⟨h, h'⟩ | ⟨h, h'⟩ | ⟨h, h'⟩ | ⟨h, h'⟩
  · obtain rfl : s = 1 := by omega
    simp [tg]; omega
  · obtain rfl : s = 2 := by omega
    simp [tg]; omega
  · obtain rfl : s = 4 := by omega
    simp [tg]; omega
  · obtain rfl : s = 8 := by omega
    simp [tg]; omega
theorem wd_less (a b s : Nat) (ha : fits a (s : Int) = true) (hb : fits b (s : Int) = true) : Op.bytesLess (wd a s) (wd b s) = decide (a < b) := by
  unfold wd
  rw [be_less, Nat.mod_eq_of_lt (wd_small a s ha), Nat.mod_eq_of_lt (wd_small b s hb)]
  rw [Bool.eq_iff_iff]; simp
theorem wd_inj (a b s : Nat) (ha : fits a (s : Int) = true) (hb : fits b (s : Int) = true) (h : wd a s = wd b s) : a = b := by
  have := be_inj _ _ _ h
  rw [Nat.mod_eq_of_lt (wd_small a s ha), Nat.mod_eq_of_lt (wd_small b s hb)] at this
  omega
end Go.Proofs.YteegonadodmeeaaDoor
