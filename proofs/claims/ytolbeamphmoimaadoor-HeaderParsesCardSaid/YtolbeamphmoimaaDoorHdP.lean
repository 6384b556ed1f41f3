/- The program's Parse of long headers. -/
import Derived.Test.YtolbeamphmoimaaDoorHdN
import Derived.IntWalk
namespace Go.Proofs.YtolbeamphmoimaaDoor
open Go.RowKit

def V32 (n : Nat) : Prop := n < 256 ^ 4
theorem v32_lt {n : Nat} (h : V32 n) : (n : Int) < 4294967296 := by unfold V32 at h; omega
def M62 (m : Nat) : Prop := m < 4611686018427387904
theorem m62_le {m : Nat} (h : M62 m) (c : UInt8) : (m : Int) - min (m : Int) ((c.toNat : Int) % 4 + 1) ≤ 9223372036854775807 := by unfold M62 at h; omega
/-- The end of a long header, behind its number m of bytes. -/
def longL (l : List UInt8) (c : UInt8) (ki : Int) (vb D S T : List UInt8) (m : Nat) (s8 : RS) : Hd × Int × Int :=
  if s8.e = 0 ∧ m < c.toNat % 4 + 1 then (Hd.zero, 0, 3) else
    let s9 := if s8.l.length < m then s8.fail 2 else s8
    finL ⟨true, false, ki, verOf vb, D, S, T, (s9.bytes (c.toNat % 4 + 1)).1, ((m - (c.toNat % 4 + 1) : Nat) : Int)⟩ ((l.length : Int) - (s9.bytes (c.toNat % 4 + 1)).2.l.length) (s9.bytes (c.toNat % 4 + 1)).2.e
theorem verOf_snoc (l : List UInt8) (x : UInt8) : verOf (l ++ [x]) = verOf l * 256 + x.toNat := by simp [verOf]
theorem verOf_lt (l : List UInt8) (k : Nat) (h : l.length ≤ k) : verOf l < 256 ^ k := by
  have key : ∀ (r : List UInt8) (a b : Nat), a < b → r.foldl (fun n x => n * 256 + x.toNat) a < b * 256 ^ r.length := by
    intro r
    induction r with
    | nil => intro a b h; simpa using h
    | cons y r ih =>
      intro a b h
      have hy := y.toNat_lt
      have := ih (a * 256 + y.toNat) (b * 256) (by omega)
      simp only [List.foldl_cons, List.length_cons, Nat.pow_succ]
      rw [Nat.mul_comm (256 ^ r.length) 256, ← Nat.mul_assoc]
      exact this
  have h1 := key l 0 1 (by omega)
  rw [Nat.one_mul] at h1
  exact Nat.lt_of_lt_of_le h1 (Nat.pow_le_pow_right (by omega) h)
theorem or_low32 (v x : Nat) (hv : v < 16777216) (hx : x < 256) : bits BinOp.or IntKind.u32 ((v : Int) * 256) (x : Int) = ((v * 256 + x : Nat) : Int) := by
  have e : (v * 256) ||| x = v * 256 + x := by
    have := Nat.two_pow_add_eq_or_of_lt (i := 8) (b := x) (by omega) v
    rw [Nat.mul_comm v 256]
    exact this.symm
  have h1 : ((v : Int) * 256) = ((v * 256 : Nat) : Int) := (Int.natCast_mul v 256).symm
  unfold bits
  simp only [h1]
  show IntKind.u32.wrap (((BitVec.ofInt 32 ((v * 256 : Nat) : Int) ||| BitVec.ofInt 32 (x : Int)).toNat : Nat) : Int) = _
  have w1 : (BitVec.ofInt 32 ((v * 256 : Nat) : Int)) = BitVec.ofNat 32 (v * 256) := by rw [BitVec.ofInt_natCast]
  have w2 : (BitVec.ofInt 32 (x : Int)) = BitVec.ofNat 32 x := by rw [BitVec.ofInt_natCast]
  rw [w1, w2, BitVec.toNat_or, BitVec.toNat_ofNat, BitVec.toNat_ofNat, Nat.mod_eq_of_lt (by omega), Nat.mod_eq_of_lt (by omega), e]
  show IntKind.u32.wrap _ = _
  unfold IntKind.wrap
  simp [IntKind.bits, IntKind.signed]
  omega
theorem int_bad (s : RS) (h : s.int.2.e ≠ 0) : s.int.1 = 0 := by
  unfold RS.int at h ⊢
  split
  · rfl
  · rename_i c r hl
    rw [hl] at h
    simp only at h
    rw [← hl] at h
    by_cases hlt : s.l.length < lenOf c
    · simp [hlt]
    · rw [if_neg hlt]
      rw [if_neg hlt] at h
      unfold RS.bytes at h ⊢
      by_cases he : s.e = 0
      · simp [he, hlt] at h
      · simp [he, valOf]
theorem int_lt (s : RS) : s.int.1 < 4611686018427387904 := by
  unfold RS.int
  split
  · show (0 : Nat) < _; decide
  · rename_i c r hl
    by_cases hlt : s.l.length < lenOf c
    · rw [if_pos hlt]; show (0 : Nat) < _; decide
    · rw [if_neg hlt]
      by_cases h0 : (s.bytes (lenOf c)).1 = []
      · rw [h0]; show (0 : Nat) < _; decide
      · have := valOf_lt _ h0
        have hb := bytes_le s (lenOf c)
        have h8 := (lenOf_le c).2
        refine Nat.lt_of_lt_of_le this ?_
        have : 256 ^ ((s.bytes (lenOf c)).1.length - 1) ≤ 256 ^ 7 := Nat.pow_le_pow_right (by omega) (by omega)
        have e : 64 * 256 ^ 7 = 4611686018427387904 := by decide
        omega

set_option maxHeartbeats 4000000 in
set_option maxRecDepth 10000 in
theorem parse_quiet {w : World} {v : Value} {l : List UInt8} {c : UInt8} {s1 : RS} (h : Byts w v l) (hl : (l.length : Int) ≤ 5000) (h0 : RS.byte ⟨l, 0⟩ = (c, s1)) (hp : s1.e = 0 → ¬ c.toNat / 64 % 2 = 0) (h128 : 128 ≤ c.toNat) (hq : ¬ c.toNat / 4 % 4 = 0) :
    Calls Tryd.prog 19 #[v] w (ParseOut w (Hd.zero, 0, 3)) := by
  have H := Lib.hid h
  have HL := Lib.hid hl
  obtain ⟨a0, c0, rfl, _⟩ := byts_val h
  have H0 := Lib.hid h0
  have hc := c.toNat_lt
  have hci : (c.toNat : Int) < 256 := by omega
  obtain ⟨t3, t64, t128, t56, t4, t12, t16⟩ := bits_and c
  have HP : Hid (s1.e = 0 → (bits .and .u8 (c.toNat : Int) 64 == 0) = false) := fun e => by rw [t64, decide_eq_false (hp e)]
  clear t64 hp
  rw [decide_eq_true h128] at t128
  rw [decide_eq_false hq] at t12
  have HB := Lib.hid (fun w' (hM : Mod (fun _ => False) w w') => read_any (H.out.kept hM (fun _ _ h => h)) (by omega))
  clear h hl h0 hc h128 hq t56 t4
  by_cases he : s1.e = 0
  case' pos => have tb : (s1.e == 0) = true := by simp [he]
  case' pos => have t64 := HP.out he
  case' neg => have tb : (s1.e == 0) = false := by simp [he]
  all_goals
    clear he
    go_enter Tryd.func19, Tryd.ntmps19
    go_wp2_with fail
    refine wp_scope_fwd ?_
    go_wp2_with fail
    refine (HB.out _ (((Mod.refl _ w).alloc _).alloc _)).mono ?_
    rintro e w1 ⟨rb, rfl, hrb, hr, hM1⟩
    have hP := Lib.hid (ps_new hr (by simpa using hrb) hM1)
    clear hr hM1 hrb
    go_wp2_with fail
    refine (byte_any hP.out.r).mono ?_
    rintro e w2 ⟨rfl, hr2, hM2⟩
    rw [H0.out] at hr2 ⊢
    simp only at hr2 ⊢
    have hP2 := Lib.hid (hP.out.step hr2 hM2)
    clear hr2 hM2
    go_wp2_with fail
    refine (bad_any hP2.out.r).mono ?_
    rintro e w3 ⟨rfl, rfl⟩
    obtain ⟨c0, c1, c2, c3, c4, c5, c6, c7, c8, c9⟩ := hP2.out.cells
    obtain ⟨g0, g1, g2, g3, g4, g5, g6, g7, g8⟩ := hP2.out.frozen
    obtain ⟨⟨r0, r1, r2, r3, r4, r5, r6, r7, r8, r9⟩, ⟨f0, f1, f2, f3, f4, f5, f6, f7, f8⟩⟩ := hP2.out.rcells
    have hP101 := Lib.hid ((hP2.out.put0 (.bool true)).put2 (.int .i64 ((c.toNat : Int) / 16 % 4)))
    go_wp2_with ((first | (with_reducible refine wp_label ?_) | ((with_reducible refine wp_goto ?_); refine fwd_goto 0 rfl ?_) | ((with_reducible refine wp_goto ?_); refine fwd_goto 1 rfl ?_)))
    refine noGoto_ret ?_
    rw [set9_eq]
    have HB2 := blk_set9 (.bool false) (.bool false) (.int .i64 0) (.int .u32 0) (.slice none 0 0) (.slice none 0 0) (.slice none 0 0) (.slice none 0 0) (.int .i64 0) hP101.out.res
    have hM2 := mod_set9 (b := w.heap.size) (.bool false) (.bool false) (.int .i64 0) (.int .u32 0) (.slice none 0 0) (.slice none 0 0) (.slice none 0 0) (.slice none 0 0) (.int .i64 0) hP101.out.mod (fun _ => Nat.le_refl _)
    obtain ⟨q0, q1, q2, q3, q4, q5, q6, q7, q8, _⟩ := hd_cells HB2
    refine bodyPost_ret (v := .tuple #[_, _, _]) ?_ rfl (parseOut_of rfl ⟨.slice none 0 0, .slice none 0 0, .slice none 0 0, .slice none 0 0, rfl, zero_hdv _, mod_fin hM2, zero_hdo _ _⟩)
    simp [results, Tryd.results19, go_sem, q0, q1, q2, q3, q4, q5, q6, q7, q8, Hd.zero, hdV]

set_option maxHeartbeats 4000000 in
set_option maxRecDepth 10000 in
theorem parse_kind1 {w : World} {v : Value} {l : List UInt8} {c : UInt8} {s1 : RS} (h : Byts w v l) (hl : (l.length : Int) ≤ 5000) (h0 : RS.byte ⟨l, 0⟩ = (c, s1)) (hp : s1.e = 0 → ¬ c.toNat / 64 % 2 = 0) (h128 : 128 ≤ c.toNat) (hq : c.toNat / 4 % 4 = 0) (hk : c.toNat / 16 % 4 = 1) :
    Calls Tryd.prog 19 #[v] w (ParseOut w (Hd.zero, 0, 3)) := by
  have H := Lib.hid h
  have HL := Lib.hid hl
  obtain ⟨a0, c0, rfl, _⟩ := byts_val h
  have H0 := Lib.hid h0
  have hc := c.toNat_lt
  have hci : (c.toNat : Int) < 256 := by omega
  obtain ⟨t3, t64, t128, t56, t4, t12, t16⟩ := bits_and c
  have HP : Hid (s1.e = 0 → (bits .and .u8 (c.toNat : Int) 64 == 0) = false) := fun e => by rw [t64, decide_eq_false (hp e)]
  clear t64 hp
  rw [decide_eq_true h128] at t128
  rw [decide_eq_true hq] at t12
  rw [hk] at t16
  simp only [Int.cast_ofNat_Int] at t16
  have HB := Lib.hid (fun w' (hM : Mod (fun _ => False) w w') => read_any (H.out.kept hM (fun _ _ h => h)) (by omega))
  clear h hl h0 hc h128 hq t56 t4 hk
  by_cases he : s1.e = 0
  case' pos => have tb : (s1.e == 0) = true := by simp [he]
  case' pos => have t64 := HP.out he
  case' neg => have tb : (s1.e == 0) = false := by simp [he]
  all_goals
    clear he
    go_enter Tryd.func19, Tryd.ntmps19
    go_wp2_with fail
    refine wp_scope_fwd ?_
    go_wp2_with fail
    refine (HB.out _ (((Mod.refl _ w).alloc _).alloc _)).mono ?_
    rintro e w1 ⟨rb, rfl, hrb, hr, hM1⟩
    have hP := Lib.hid (ps_new hr (by simpa using hrb) hM1)
    clear hr hM1 hrb
    go_wp2_with fail
    refine (byte_any hP.out.r).mono ?_
    rintro e w2 ⟨rfl, hr2, hM2⟩
    rw [H0.out] at hr2 ⊢
    simp only at hr2 ⊢
    have hP2 := Lib.hid (hP.out.step hr2 hM2)
    clear hr2 hM2
    go_wp2_with fail
    refine (bad_any hP2.out.r).mono ?_
    rintro e w3 ⟨rfl, rfl⟩
    obtain ⟨c0, c1, c2, c3, c4, c5, c6, c7, c8, c9⟩ := hP2.out.cells
    obtain ⟨g0, g1, g2, g3, g4, g5, g6, g7, g8⟩ := hP2.out.frozen
    obtain ⟨⟨r0, r1, r2, r3, r4, r5, r6, r7, r8, r9⟩, ⟨f0, f1, f2, f3, f4, f5, f6, f7, f8⟩⟩ := hP2.out.rcells
    have hP101 := Lib.hid ((hP2.out.put0 (.bool true)).put2 (.int .i64 1))
    go_wp2_with ((first | (with_reducible refine wp_label ?_) | ((with_reducible refine wp_goto ?_); refine fwd_goto 0 rfl ?_) | ((with_reducible refine wp_goto ?_); refine fwd_goto 1 rfl ?_)))
    refine noGoto_ret ?_
    rw [set9_eq]
    have HB2 := blk_set9 (.bool false) (.bool false) (.int .i64 0) (.int .u32 0) (.slice none 0 0) (.slice none 0 0) (.slice none 0 0) (.slice none 0 0) (.int .i64 0) hP101.out.res
    have hM2 := mod_set9 (b := w.heap.size) (.bool false) (.bool false) (.int .i64 0) (.int .u32 0) (.slice none 0 0) (.slice none 0 0) (.slice none 0 0) (.slice none 0 0) (.int .i64 0) hP101.out.mod (fun _ => Nat.le_refl _)
    obtain ⟨q0, q1, q2, q3, q4, q5, q6, q7, q8, _⟩ := hd_cells HB2
    refine bodyPost_ret (v := .tuple #[_, _, _]) ?_ rfl (parseOut_of rfl ⟨.slice none 0 0, .slice none 0 0, .slice none 0 0, .slice none 0 0, rfl, zero_hdv _, mod_fin hM2, zero_hdo _ _⟩)
    simp [results, Tryd.results19, go_sem, q0, q1, q2, q3, q4, q5, q6, q7, q8, Hd.zero, hdV]

set_option maxHeartbeats 4000000 in
set_option maxRecDepth 10000 in
theorem parse_kind3 {w : World} {v : Value} {l : List UInt8} {c : UInt8} {s1 : RS} (h : Byts w v l) (hl : (l.length : Int) ≤ 5000) (h0 : RS.byte ⟨l, 0⟩ = (c, s1)) (hp : s1.e = 0 → ¬ c.toNat / 64 % 2 = 0) (h128 : 128 ≤ c.toNat) (hq : c.toNat / 4 % 4 = 0) (hk : c.toNat / 16 % 4 = 3) :
    Calls Tryd.prog 19 #[v] w (ParseOut w (Hd.zero, 0, 3)) := by
  have H := Lib.hid h
  have HL := Lib.hid hl
  obtain ⟨a0, c0, rfl, _⟩ := byts_val h
  have H0 := Lib.hid h0
  have hc := c.toNat_lt
  have hci : (c.toNat : Int) < 256 := by omega
  obtain ⟨t3, t64, t128, t56, t4, t12, t16⟩ := bits_and c
  have HP : Hid (s1.e = 0 → (bits .and .u8 (c.toNat : Int) 64 == 0) = false) := fun e => by rw [t64, decide_eq_false (hp e)]
  clear t64 hp
  rw [decide_eq_true h128] at t128
  rw [decide_eq_true hq] at t12
  rw [hk] at t16
  simp only [Int.cast_ofNat_Int] at t16
  have HB := Lib.hid (fun w' (hM : Mod (fun _ => False) w w') => read_any (H.out.kept hM (fun _ _ h => h)) (by omega))
  clear h hl h0 hc h128 hq t56 t4 hk
  by_cases he : s1.e = 0
  case' pos => have tb : (s1.e == 0) = true := by simp [he]
  case' pos => have t64 := HP.out he
  case' neg => have tb : (s1.e == 0) = false := by simp [he]
  all_goals
    clear he
    go_enter Tryd.func19, Tryd.ntmps19
    go_wp2_with fail
    refine wp_scope_fwd ?_
    go_wp2_with fail
    refine (HB.out _ (((Mod.refl _ w).alloc _).alloc _)).mono ?_
    rintro e w1 ⟨rb, rfl, hrb, hr, hM1⟩
    have hP := Lib.hid (ps_new hr (by simpa using hrb) hM1)
    clear hr hM1 hrb
    go_wp2_with fail
    refine (byte_any hP.out.r).mono ?_
    rintro e w2 ⟨rfl, hr2, hM2⟩
    rw [H0.out] at hr2 ⊢
    simp only at hr2 ⊢
    have hP2 := Lib.hid (hP.out.step hr2 hM2)
    clear hr2 hM2
    go_wp2_with fail
    refine (bad_any hP2.out.r).mono ?_
    rintro e w3 ⟨rfl, rfl⟩
    obtain ⟨c0, c1, c2, c3, c4, c5, c6, c7, c8, c9⟩ := hP2.out.cells
    obtain ⟨g0, g1, g2, g3, g4, g5, g6, g7, g8⟩ := hP2.out.frozen
    obtain ⟨⟨r0, r1, r2, r3, r4, r5, r6, r7, r8, r9⟩, ⟨f0, f1, f2, f3, f4, f5, f6, f7, f8⟩⟩ := hP2.out.rcells
    have hP101 := Lib.hid ((hP2.out.put0 (.bool true)).put2 (.int .i64 3))
    go_wp2_with ((first | (with_reducible refine wp_label ?_) | ((with_reducible refine wp_goto ?_); refine fwd_goto 0 rfl ?_) | ((with_reducible refine wp_goto ?_); refine fwd_goto 1 rfl ?_)))
    refine noGoto_ret ?_
    rw [set9_eq]
    have HB2 := blk_set9 (.bool false) (.bool false) (.int .i64 0) (.int .u32 0) (.slice none 0 0) (.slice none 0 0) (.slice none 0 0) (.slice none 0 0) (.int .i64 0) hP101.out.res
    have hM2 := mod_set9 (b := w.heap.size) (.bool false) (.bool false) (.int .i64 0) (.int .u32 0) (.slice none 0 0) (.slice none 0 0) (.slice none 0 0) (.slice none 0 0) (.int .i64 0) hP101.out.mod (fun _ => Nat.le_refl _)
    obtain ⟨q0, q1, q2, q3, q4, q5, q6, q7, q8, _⟩ := hd_cells HB2
    refine bodyPost_ret (v := .tuple #[_, _, _]) ?_ rfl (parseOut_of rfl ⟨.slice none 0 0, .slice none 0 0, .slice none 0 0, .slice none 0 0, rfl, zero_hdv _, mod_fin hM2, zero_hdo _ _⟩)
    simp [results, Tryd.results19, go_sem, q0, q1, q2, q3, q4, q5, q6, q7, q8, Hd.zero, hdV]

end Go.Proofs.YtolbeamphmoimaaDoor
