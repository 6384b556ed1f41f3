/- Plain mathematics of integers as bytes, highest first, in 1, 2, 4 or 8 bytes, with the width in the two highest bits. No program in sight. -/
import Derived.WalkKit
namespace Go.Proofs.YteegonadodmeeaaDoor

/-- The lowest s bytes of a number, the highest of them first. -/
def be : Nat → Nat → List UInt8
  | 0, _ => []
  | s + 1, n => be s (n / 256) ++ [UInt8.ofNat n]
@[simp] theorem be_length (s n : Nat) : (be s n).length = s := by
  induction s generalizing n with
  | zero => rfl
  | succ s ih => simp [be, ih]
theorem be_front (s n : Nat) : be (s + 1) n = UInt8.ofNat (n / 256 ^ s) :: be s n := by
  induction s generalizing n with
  | zero => simp [be]
  | succ s ih =>
    have h : be (s + 1 + 1) n = be (s + 1) (n / 256) ++ [UInt8.ofNat n] := rfl
    rw [h, ih (n / 256), Nat.div_div_eq_div_mul, Nat.pow_succ, Nat.mul_comm]
    rfl
/-- The number of bytes. -/
def un (l : List UInt8) : Nat := l.foldl (fun n c => n * 256 + c.toNat) 0
theorem un_snoc (l : List UInt8) (c : UInt8) : un (l ++ [c]) = un l * 256 + c.toNat := by simp [un]
theorem un_be (s n : Nat) : un (be s n) = n % 256 ^ s := by
  induction s generalizing n with
  | zero => simp [be, un, Nat.mod_one]
  | succ s ih =>
    rw [be, un_snoc, ih, Nat.pow_succ, Nat.mul_comm (256 ^ s) 256, Nat.mod_mul]
    simp; omega
def szN (n : Nat) : Nat := if n < 64 then 1 else if n < 16384 then 2 else if n < 1073741824 then 4 else if n < 4611686018427387904 then 8 else 0
def fits (n : Nat) (size : Int) : Bool :=
  if size = 1 then decide (n < 64) else if size = 2 then decide (n < 16384) else if size = 4 then decide (n < 1073741824) else if size = 8 then decide (n < 4611686018427387904) else false
def tg (s : Nat) : Nat := if s = 1 then 0 else if s = 2 then 1 else if s = 4 then 2 else 3
/-- An integer in s bytes. -/
def wd (n s : Nat) : List UInt8 := be s (n + tg s * 2 ^ (8 * s - 2))
def wideL (n : Nat) (size : Int) : List UInt8 := if fits n size then wd n size.toNat else []
def putL (n : Nat) : List UInt8 := wideL n (szN n)

theorem szN_cases (n : Nat) : (n < 64 ∧ szN n = 1) ∨ (64 ≤ n ∧ n < 16384 ∧ szN n = 2) ∨ (16384 ≤ n ∧ n < 1073741824 ∧ szN n = 4) ∨ (1073741824 ≤ n ∧ n < 4611686018427387904 ∧ szN n = 8) ∨ (4611686018427387904 ≤ n ∧ szN n = 0) := by
  unfold szN
  by_cases h1 : n < 64
  · left; simp [h1]
  by_cases h2 : n < 16384
  · right; left; simp [h1, h2]; omega
  by_cases h3 : n < 1073741824
  · right; right; left; simp [h1, h2, h3]; omega
  by_cases h4 : n < 4611686018427387904
  · right; right; right; left; simp [h1, h2, h3, h4]; omega
  · right; right; right; right; simp [h1, h2, h3, h4]; omega
theorem fits_iff (n : Nat) (size : Int) : fits n size = true ↔ (size = 1 ∧ n < 64) ∨ (size = 2 ∧ n < 16384) ∨ (size = 4 ∧ n < 1073741824) ∨ (size = 8 ∧ n < 4611686018427387904) := by
  unfold fits
  by_cases h1 : size = 1
  · subst h1; simp
  by_cases h2 : size = 2
  · subst h2; simp
  by_cases h3 : size = 4
  · subst h3; simp
  by_cases h4 : size = 8
  · subst h4; simp
  simp [h1, h2, h3, h4]
theorem fits_sz (n : Nat) (size : Int) : fits n size = true ↔ szN n ≠ 0 ∧ (szN n : Int) ≤ size ∧ (size = 1 ∨ size = 2 ∨ size = 4 ∨ size = 8) := by
  rw [fits_iff]
  rcases szN_cases n with h | h | h | h | h <;> (try omega)
theorem wideL_length (n : Nat) (size : Int) (h : fits n size = true) : (wideL n size).length = size.toNat := by simp [wideL, h, wd]
theorem putL_length (n : Nat) : (putL n).length = szN n := by
  unfold putL
  by_cases h : fits n (szN n) = true
  · rw [wideL_length _ _ h]; simp
  · rw [wideL, if_neg h]
    rw [fits_iff] at h
    rcases szN_cases n with h' | h' | h' | h' | h' <;> (simp; omega)
theorem be_mod (s n m : Nat) (h : n % 256 ^ s = m % 256 ^ s) : be s n = be s m := by
  induction s generalizing n m with
  | zero => rfl
  | succ s ih =>
    have hn : n % 256 = m % 256 := by
      have h1 : n % 256 = n % 256 ^ (s + 1) % 256 := (Nat.mod_mod_of_dvd _ (by rw [Nat.pow_succ]; exact Nat.dvd_mul_left _ _)).symm
      have h2 : m % 256 = m % 256 ^ (s + 1) % 256 := (Nat.mod_mod_of_dvd _ (by rw [Nat.pow_succ]; exact Nat.dvd_mul_left _ _)).symm
      rw [h1, h2, h]
    have hd : n / 256 % 256 ^ s = m / 256 % 256 ^ s := by
      rw [Nat.pow_succ, Nat.mul_comm, Nat.mod_mul, Nat.mod_mul] at h
      omega
    rw [be, be, ih _ _ hd]
    congr 2
    exact UInt8.toNat_inj.1 (by simpa using hn)
/-- The width stands in the two highest bits. -/
theorem wd_first (n s : Nat) (h1 : 1 ≤ s) (hn : n < 64 * 256 ^ (s - 1)) (ht : tg s < 4) : wd n s = UInt8.ofNat (n / 256 ^ (s - 1) + 64 * tg s) :: be (s - 1) n ∧ n / 256 ^ (s - 1) < 64 := by
  obtain ⟨k, rfl⟩ : ∃ k, s = k + 1 := ⟨s - 1, by omega⟩
  have e : 2 ^ (8 * (k + 1) - 2) = 64 * 256 ^ k := by
    rw [show 8 * (k + 1) - 2 = 6 + 8 * k by omega, Nat.pow_add, Nat.pow_mul]
  simp only [Nat.add_sub_cancel] at hn ⊢
  have hp : 0 < 256 ^ k := Nat.pow_pos (by omega)
  refine ⟨?_, (Nat.div_lt_iff_lt_mul hp).2 hn⟩
  rw [wd, be_front, e]
  congr 1
  · congr 1
    rw [show n + tg (k + 1) * (64 * 256 ^ k) = n + 256 ^ k * (64 * tg (k + 1)) by rw [Nat.mul_left_comm, Nat.mul_comm (256 ^ k), ← Nat.mul_assoc], Nat.add_mul_div_left _ _ hp]
  · refine be_mod _ _ _ ?_
    rw [show n + tg (k + 1) * (64 * 256 ^ k) = n + 256 ^ k * (64 * tg (k + 1)) by rw [Nat.mul_left_comm, Nat.mul_comm (256 ^ k), ← Nat.mul_assoc], Nat.add_mul_mod_self_left]
theorem tg_lt (s : Nat) : tg s < 4 := by unfold tg; split <;> (try split) <;> (try split) <;> omega
theorem fits_bound (n s : Nat) (h : fits n (s : Int) = true) : 1 ≤ s ∧ s ≤ 8 ∧ n < 64 * 256 ^ (s - 1) ∧ (s = 1 ∨ s = 2 ∨ s = 4 ∨ s = 8) := by
  rw [fits_iff] at h
  rcases h with ⟨h, h'⟩ | ⟨h, h'⟩ | ⟨h, h'⟩ | ⟨h, h'⟩
  · obtain rfl : s = 1 := by omega
    simp; omega
  · obtain rfl : s = 2 := by omega
    simp; omega
  · obtain rfl : s = 4 := by omega
    simp; omega
  · obtain rfl : s = 8 := by omega
    simp; omega
theorem set_rep {α : Type} (z v : α) (l : List α) (s j : Nat) (h : j < s) : (List.replicate (s - j) z ++ l).toArray.setIfInBounds (s - 1 - j) v = (List.replicate (s - (j + 1)) z ++ v :: l).toArray := by
  apply Array.toList_inj.1
  have e : s - j = (s - (j + 1)) + 1 := by omega
  rw [Array.toList_setIfInBounds]
  simp only
  rw [e, show s - 1 - j = s - (j + 1) by omega, List.replicate_succ', List.append_assoc, List.set_append, if_neg (by simp)]
  simp
theorem get_rep {α : Type} (z : α) (l : List α) (s j : Nat) (h : j < s) : (List.replicate (s - j) z ++ l).toArray[s - 1 - j]? = some z := by
  rw [List.getElem?_toArray, List.getElem?_append_left (by simp; omega), List.getElem?_replicate, if_pos (by omega)]
theorem byte_shr (n j : Nat) : (n : Int) / 2 ^ (8 * j) % 256 = ((UInt8.ofNat (n / 256 ^ j)).toNat : Int) := by
  rw [Int.pow_mul]
  simp
theorem or_byte (n m t : Nat) (hx : n / 256 ^ m < 64) (ht : t < 4) : bits BinOp.or IntKind.u8 ((n : Int) / 256 ^ m % 256) ((t : Int) * 64) = ((UInt8.ofNat (n / 256 ^ m + 64 * t)).toNat : Int) := by
  have h : ∀ x : Fin 64, ∀ t : Fin 4, bits BinOp.or IntKind.u8 (((x.val : Nat) : Int) % 256) (((t.val : Nat) : Int) * 64) = ((UInt8.ofNat (x.val + 64 * t.val)).toNat : Int) := by decide +kernel
  have e : (n : Int) / 256 ^ m = ((n / 256 ^ m : Nat) : Int) := by simp
  rw [e]
  exact h ⟨_, hx⟩ ⟨t, ht⟩
theorem or_tag (x t : Nat) (hx : x < 64) (ht : t < 4) : x ||| (64 * t) = x + 64 * t := by
  have h : ∀ x : Fin 64, ∀ t : Fin 4, x.val ||| (64 * t.val) = x.val + 64 * t.val := by decide +kernel
  exact h ⟨x, hx⟩ ⟨t, ht⟩
/-- A reader's state: the bytes that are left, its error's number. -/
structure RS where
  l : List UInt8
  e : Int
def RS.fail (s : RS) (e : Int) : RS := if s.e = 0 ∧ e ≠ 0 then ⟨[], e⟩ else s
def RS.bytes (s : RS) (n : Nat) : List UInt8 × RS := if s.e ≠ 0 then ([], s) else if s.l.length < n then ([], ⟨[], 2⟩) else (s.l.take n, ⟨s.l.drop n, 0⟩)
def RS.byte (s : RS) : UInt8 × RS := ((s.bytes 1).1.headD 0, (s.bytes 1).2)
/-- How many bytes an integer has that begins so. -/
def lenOf (c : UInt8) : Nat := 2 ^ (c.toNat / 64)
/-- The integer in so many bytes: the two highest bits are their number. -/
def valOf : List UInt8 → Nat
  | [] => 0
  | c :: r => r.foldl (fun n x => n * 256 + x.toNat) (c.toNat % 64)
def RS.int (s : RS) : Nat × RS := match s.l with
  | [] => (0, s.fail 2)
  | c :: _ => if s.l.length < lenOf c then (0, s.fail 2) else (valOf (s.bytes (lenOf c)).1, (s.bytes (lenOf c)).2)
theorem valOf_snoc (p : List UInt8) (x : UInt8) (h : p ≠ []) : valOf (p ++ [x]) = valOf p * 256 + x.toNat := by
  cases p with
  | nil => exact absurd rfl h
  | cons c r => simp [valOf]
theorem valOf_lt (p : List UInt8) (h : p ≠ []) : valOf p < 64 * 256 ^ (p.length - 1) := by
  cases p with
  | nil => exact absurd rfl h
  | cons c r =>
    simp only [valOf, List.length_cons, Nat.add_sub_cancel]
    have key : ∀ (r : List UInt8) (a b : Nat), a < b → r.foldl (fun n x => n * 256 + x.toNat) a < b * 256 ^ r.length := by
      intro r
      induction r with
      | nil => intro a b h; simpa using h
      | cons y r ih =>
        intro a b h
        have hy := y.toNat_lt
        have := ih (a * 256 + y.toNat) (b * 256) (by omega)
        simp only [List.foldl_cons, List.length_cons, Nat.pow_succ]
        rw [Nat.mul_comm (256 ^ r.length) 256, ← Nat.mul_assoc]
        exact this
    exact key r _ _ (Nat.mod_lt _ (by omega))
theorem and63 (x : UInt8) : bits BinOp.and IntKind.u8 (x.toNat : Int) 63 = ((x.toNat % 64 : Nat) : Int) := by
  have h : ∀ x : Fin 256, bits BinOp.and IntKind.u8 ((x.val : Nat) : Int) 63 = ((x.val % 64 : Nat) : Int) := by decide +kernel
  exact h ⟨x.toNat, x.toNat_lt⟩
theorem or_low (v x : Nat) (hv : v < 18014398509481984) (hx : x < 256) : bits BinOp.or IntKind.u64 ((v : Int) * 256) (x : Int) = ((v * 256 + x : Nat) : Int) := by
  have e : (v * 256) ||| x = v * 256 + x := by
    have := Nat.two_pow_add_eq_or_of_lt (i := 8) (b := x) (by omega) v
    rw [Nat.mul_comm v 256]
    exact this.symm
  have h1 : ((v : Int) * 256) = ((v * 256 : Nat) : Int) := (Int.natCast_mul v 256).symm
  unfold bits
  simp only [h1]
  have w1 : (BitVec.ofInt 64 ((v * 256 : Nat) : Int)) = BitVec.ofNat 64 (v * 256) := by rw [BitVec.ofInt_natCast]
  have w2 : (BitVec.ofInt 64 (x : Int)) = BitVec.ofNat 64 x := by rw [BitVec.ofInt_natCast]
  show IntKind.u64.wrap (((BitVec.ofInt 64 _ ||| BitVec.ofInt 64 _).toNat : Nat) : Int) = _
  rw [w1, w2, BitVec.toNat_or, BitVec.toNat_ofNat, BitVec.toNat_ofNat, Nat.mod_eq_of_lt (by omega), Nat.mod_eq_of_lt (by omega), e]
  exact IntWalk.u64_in _ (by omega)
end Go.Proofs.YteegonadodmeeaaDoor
