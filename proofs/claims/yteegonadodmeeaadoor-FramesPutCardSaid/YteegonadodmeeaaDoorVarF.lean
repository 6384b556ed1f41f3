/- The contracts of the program's reader: a byte, an integer. -/
import Derived.Test.YteegonadodmeeaaDoorVarE
import Derived.Test.YteegonadodmeeaaDoorScope
namespace Go.Proofs.YteegonadodmeeaaDoor
open Go.RowKit

theorem bytes_le (s : RS) (n : Nat) : (s.bytes n).1.length ≤ n := by
  unfold RS.bytes; split
  · simp
  · split
    · simp
    · simp; omega
set_option maxRecDepth 10000 in
theorem byte_any {w : World} {rb : Nat} {s : RS} (h : Rdr w rb s) :
    Calls Tryd.prog 82 #[.pointer (some ⟨rb, 0, none⟩)] w fun x w' => x = .returned (.int .u8 (s.byte.1.toNat : Int)) ∧ Rdr w' rb s.byte.2 ∧ Mod (fun k => k = rb) w w' := by
  have H := Lib.hid h
  clear h
  have HB := Lib.hid (@bytes_any w rb s 1 H.out)
  have hd : s.byte.1 = (s.bytes 1).1.headD 0 := rfl
  have hr : s.byte.2 = (s.bytes 1).2 := rfl
  have hle := bytes_le s 1
  rw [hd, hr]
  generalize (s.bytes 1).2 = s' at *
  generalize (s.bytes 1).1 = l at *
  clear hd hr
  cases l with
  | nil =>
    go_enter Tryd.func82, Tryd.ntmps82
    go_wp2_with (go_at_call 42; refine (HB.out).mono ?_; rintro e w1 ⟨v, rfl, ho, hr, hM⟩; obtain ⟨a, cap, rfl, _⟩ := byts_val ho.byts; have hl0 := List.length_nil (α := UInt8))
    go_ret
    exact ⟨rfl, hr, hM⟩
  | cons c r =>
    obtain rfl : r = [] := List.eq_nil_of_length_eq_zero (by simpa using hle)
    clear hle
    go_enter Tryd.func82, Tryd.ntmps82
    go_wp2_with (go_at_call 42; refine (HB.out).mono ?_; rintro e w1 ⟨v, rfl, ho, hr, hM⟩; obtain ⟨b, off, cap, rfl, _, _, hc⟩ := byts_addr ho.byts (by simp); have hc0 : w1.cell? ⟨b, off, none⟩ = some (.int .u8 (c.toNat : Int)) := hc 0 c rfl; clear hc)
    go_ret
    exact ⟨rfl, hr, hM⟩

set_option maxRecDepth 10000 in
theorem int_nil {w : World} {rb : Nat} {s : RS} (h : Rdr w rb s) (hs : s.l = []) :
    Calls Tryd.prog 38 #[.pointer (some ⟨rb, 0, none⟩)] w fun x w' => x = .returned (.int .u64 (s.int.1 : Int)) ∧ Rdr w' rb s.int.2 ∧ Mod (fun k => k = rb) w w' := by
  have H := Lib.hid h
  have e1 : s.int = (0, s.fail 2) := by simp [RS.int, hs]
  have hl := left_any h
  rw [hs] at hl
  have HL := Lib.hid hl
  rw [e1]
  clear h hl hs e1
  go_enter Tryd.func38, Tryd.ntmps38
  go_wp2_with fail
  refine wp_scope_fwd ?_
  go_wp2_with (first | (with_reducible refine wp_label ?_) | ((with_reducible refine wp_goto ?_); refine fwd_goto 0 rfl ?_) | (go_at_call 33; refine (HL.out).mono ?_; rintro e w1 ⟨rfl, rfl⟩) | (go_at_call 35; refine (fail_any _ H.out).mono ?_; rintro e w' ⟨rfl, hr', hM⟩))
  refine noGoto_ret ?_
  go_ret
  exact ⟨rfl, hr', hM⟩
theorem rdr_head {w : World} {rb : Nat} {s : RS} {c : UInt8} {r : List UInt8} (h : Rdr w rb s) (hs : s.l = c :: r) :
    s.e = 0 ∧ ∃ bb off cap, w.cell? ⟨rb, 0, none⟩ = some (.slice (some ⟨bb, off, none⟩) s.l.length cap) ∧ w.cell? ⟨bb, off, none⟩ = some (.int .u8 (c.toNat : Int)) := by
  obtain ⟨h0, a, cap, hb, h3, h4, h5, h6, h7⟩ := h
  obtain ⟨bb, off, cs, rfl, hbb, hc⟩ := h7 0 c (by simp [hs])
  refine ⟨?_, bb, off, cap, hb.cellAt 0 rfl, hbb.cellAt off hc⟩
  apply Classical.byContradiction
  intro h
  rw [h0 h] at hs
  simp at hs
theorem lenOf_le (c : UInt8) : 1 ≤ lenOf c ∧ lenOf c ≤ 8 := by
  have h := c.toNat_lt
  unfold lenOf
  rcases (show c.toNat / 64 = 0 ∨ c.toNat / 64 = 1 ∨ c.toNat / 64 = 2 ∨ c.toNat / 64 = 3 by omega) with e | e | e | e <;> rw [e] <;> decide
set_option maxRecDepth 10000 in
theorem int_short {w : World} {rb : Nat} {s : RS} {c : UInt8} {r : List UInt8} (h : Rdr w rb s) (hs : s.l = c :: r) (hlt : s.l.length < lenOf c) :
    Calls Tryd.prog 38 #[.pointer (some ⟨rb, 0, none⟩)] w fun x w' => x = .returned (.int .u64 (s.int.1 : Int)) ∧ Rdr w' rb s.int.2 ∧ Mod (fun k => k = rb) w w' := by
  have H := Lib.hid h
  have e1 : s.int = (0, s.fail 2) := by simp only [RS.int, hs]; rw [if_pos (by simpa [hs] using hlt)]
  obtain ⟨he0, bb, off, cap, hc0, hcc⟩ := rdr_head h hs
  have hl := left_any h
  have hpos : 0 < s.l.length := by simp [hs]
  obtain ⟨m, hm⟩ : ∃ m, m = s.l.length := ⟨_, rfl⟩
  rw [← hm] at hl hc0 hpos hlt
  have HL := Lib.hid hl
  have HS := Lib.hid hs
  have hc256 : (c.toNat : Int) < 256 := by have := c.toNat_lt; omega
  have hpi : (0 : Int) < m := by omega
  have hm0 : ((m : Int) == 0) = false := by simp; omega
  obtain ⟨z, hz⟩ : ∃ z, z = lenOf c := ⟨_, rfl⟩
  have hzp : (2 : Int) ^ (c.toNat / 64) = (z : Int) := by rw [hz]; unfold lenOf; simp
  have hz8 : (z : Int) ≤ 8 := by have := lenOf_le c; omega
  have hltz : (m : Int) < z := by omega
  rw [e1]
  clear h hl hs e1 hm hpos hlt hz he0
  go_enter Tryd.func38, Tryd.ntmps38
  go_wp2_with fail
  refine wp_scope_fwd ?_
  go_wp2_with (first | (with_reducible refine wp_label ?_) | ((with_reducible refine wp_goto ?_); refine fwd_goto 0 rfl ?_) | (go_at_call 33; refine (HL.out).mono ?_; rintro e w1 ⟨rfl, rfl⟩) | (go_at_call 35; refine (fail_any _ H.out).mono ?_; rintro e w' ⟨rfl, hr', hM⟩))
  refine noGoto_ret ?_
  go_ret
  exact ⟨rfl, hr', hM⟩

theorem valOf_lt' (l : List UInt8) (n k : Nat) (hn : l.length = n) (h8 : (n : Int) ≤ 8) (hk : k < n) (h0 : 0 < k) : valOf (l.take k) < 18014398509481984 := by
  have h := valOf_lt (l.take k) (by intro e; have := congrArg List.length e; rw [List.length_take, List.length_nil] at this; omega)
  have e : (l.take k).length = k := by rw [List.length_take]; omega
  rw [e] at h
  refine Nat.lt_of_lt_of_le h ?_
  have : 256 ^ (k - 1) ≤ 256 ^ 6 := Nat.pow_le_pow_right (by omega) (by omega)
  omega

set_option maxRecDepth 10000 in
set_option maxHeartbeats 1000000 in
theorem int_some {w : World} {rb : Nat} {s : RS} {c : UInt8} {r : List UInt8} (h : Rdr w rb s) (hs : s.l = c :: r) (hlt : lenOf c ≤ s.l.length) :
    Calls Tryd.prog 38 #[.pointer (some ⟨rb, 0, none⟩)] w fun x w' => x = .returned (.int .u64 (s.int.1 : Int)) ∧ Rdr w' rb s.int.2 ∧ Mod (fun k => k = rb) w w' := by
  have H := Lib.hid h
  have e1 : s.int = (valOf (s.bytes (lenOf c)).1, (s.bytes (lenOf c)).2) := by simp only [RS.int, hs]; rw [if_neg (by simpa [hs] using hlt)]
  obtain ⟨he0, bb, off, cap, hc0, hcc⟩ := rdr_head h hs
  have hl := left_any h
  have hpos : 0 < s.l.length := by simp [hs]
  have hbs : (s.bytes (lenOf c)).1 = s.l.take (lenOf c) := by
    unfold RS.bytes; rw [if_neg (by simp [he0]), if_neg (by omega)]
  have hbl : (s.bytes (lenOf c)).1.length = lenOf c := by rw [hbs]; simp; omega
  obtain ⟨m, hm⟩ : ∃ m, m = s.l.length := ⟨_, rfl⟩
  rw [← hm] at hl hc0 hpos hlt
  have HL := Lib.hid hl
  have HS := Lib.hid hs
  have HBY := Lib.hid (@bytes_any w rb s (lenOf c) H.out)
  have hc256 : (c.toNat : Int) < 256 := by have := c.toNat_lt; omega
  have hpi : (0 : Int) < m := by omega
  have hm0 : ((m : Int) == 0) = false := by simp; omega
  rw [e1]
  generalize (s.bytes (lenOf c)).2 = s' at *
  generalize (s.bytes (lenOf c)).1 = l at *
  obtain ⟨z, hz⟩ : ∃ z, z = lenOf c := ⟨_, rfl⟩
  rw [← hz] at HBY hbl hlt
  have hzp : (2 : Int) ^ (c.toNat / 64) = (z : Int) := by rw [hz]; unfold lenOf; simp
  have hz8 : (z : Int) ≤ 8 := by have := lenOf_le c; omega
  have hz1 : (1 : Int) ≤ z := by have := lenOf_le c; omega
  have hltz : (z : Int) ≤ m := by omega
  have HBL := Lib.hid hbl
  clear h hl hs e1 hm hpos hlt hz he0 hbs hbl
  go_enter Tryd.func38, Tryd.ntmps38
  go_wp2_with fail
  refine wp_scope_fwd ?_
  go_wp2_with (first | (with_reducible refine wp_label ?_) | ((with_reducible refine wp_goto ?_); refine fwd_goto 0 rfl ?_) | (go_at_call 33; refine (HL.out).mono ?_; rintro e w1 ⟨rfl, rfl⟩) | (go_at_call 42; refine (HBY.out).mono ?_; rintro e w1 ⟨v, rfl, ho, hr, hM⟩; obtain ⟨b2, off2, cap2, rfl, _, _, hc2⟩ := byts_addr ho.byts (by intro e; have := HBL.out; rw [e] at this; simp at this; omega); rw [HBL.out]; have HC2 := Lib.hid hc2; clear hc2))
  go_loop [3, 27] (fun v i => ∃ k : Nat, k ≤ z ∧ i = .int .i64 k ∧ v = .int .u64 (valOf (l.take k) : Int)) (fun _ i => z - (intOf i).toNat)
  case atStart => exact ⟨0, Nat.zero_le _, rfl, by simp [valOf]⟩
  case round =>
    obtain ⟨k, hk, rfl, rfl⟩ := hrel
    by_cases hlt : (k : Int) < z
    · have hkl : k < l.length := by have := HBL.out; omega
      have e1 : l[k]? = some l[k] := List.getElem?_eq_getElem hkl
      have g1 : w1.cell? ⟨b2, off2 + k, none⟩ = some (bv l[k]) := HC2.out k _ e1
      have hsn := take_snoc l k _ e1
      generalize l[k] = x at *
      unfold bv at g1
      have HE := Lib.hid e1
      have HSN := Lib.hid hsn
      clear e1 hkl hsn
      by_cases h0 : k = 0
      · subst h0
        rw [Nat.add_zero] at g1
        have hv : valOf (l.take (0 + 1)) = x.toNat % 64 := by rw [HSN.out]; rfl
        have ha := and63 x
        have hor := or_low 0 (x.toNat % 64) (by omega) (by omega)
        simp only [Int.natCast_zero, Int.zero_mul, Nat.zero_mul, Nat.zero_add] at hor
        have HV := Lib.hid hv
        clear hv
        have hy : ((x.toNat % 64 : Nat) : Int) < 64 := by omega
        have hy0 : 0 ≤ ((x.toNat % 64 : Nat) : Int) := by omega
        have hx := x.toNat_lt
        have hx2 : (x.toNat : Int) < 256 := by omega
        clear hx
        generalize x.toNat % 64 = y at *
        simp only [show ((valOf (List.take 0 l) : Nat) : Int) = 0 from rfl]
        go_wp2
        go_round
        case rel => exact ⟨1, by omega, by go_num, by rw [show l.take 1 = l.take (0 + 1) from rfl, HV.out]⟩
        case measure => simp [intOf]; omega
      · have hv : valOf (l.take (k + 1)) = valOf (l.take k) * 256 + x.toNat := by
          rw [HSN.out]; exact valOf_snoc _ _ (by intro e; have := congrArg List.length e; rw [List.length_take, List.length_nil] at this; have := HBL.out; omega)
        have hb := valOf_lt' l z k HBL.out hz8 (by omega) (by omega)
        have hor := or_low (valOf (l.take k)) x.toNat hb x.toNat_lt
        have HV := Lib.hid hv
        have hbi : (valOf (l.take k) : Int) < 18014398509481984 := by omega
        have hx := x.toNat_lt
        have hx2 : (x.toNat : Int) < 256 := by omega
        have hk0 : ((k : Int) == 0) = false := by simp; omega
        clear hv hb hx h0
        generalize valOf (l.take k) = u at *
        go_wp2
        go_round
        case rel => exact ⟨k + 1, by omega, by go_num, by rw [HV.out]; first | rfl | (simp; done) | (push_cast; rfl)⟩
        case measure => simp [intOf]; omega
    · go_wp2
      refine fwd_ret ?_
      go_ret
      exact ⟨by first | rfl | (rw [List.take_of_length_le (by have := HBL.out; omega)]; rfl), hr, hM⟩
theorem int_any {w : World} {rb : Nat} {s : RS} (h : Rdr w rb s) :
    Calls Tryd.prog 38 #[.pointer (some ⟨rb, 0, none⟩)] w fun x w' => x = .returned (.int .u64 (s.int.1 : Int)) ∧ Rdr w' rb s.int.2 ∧ Mod (fun k => k = rb) w w' := by
  cases hs : s.l with
  | nil => exact int_nil h hs
  | cons c r =>
    by_cases hlt : s.l.length < lenOf c
    · exact int_short h hs hlt
    · exact int_some h hs (by omega)
end Go.Proofs.YteegonadodmeeaaDoor
