/- The contract of the document's answer's reader: an integer. -/
import Derived.Test.YtcnpiclpdgkngaaDoorVarS
namespace Go.Proofs.YtcnpiclpdgkngaaDoor
open Go.RowKit

theorem refs_left {w : World} {tb cap : Nat} {a : Option Addr} {L : List UInt8} {s : RS} (h : RefS w tb a cap L s) :
    Calls Tryd.prog 40 #[.pointer (some ⟨tb, 0, none⟩)] w fun x w' => (∃ q, w.drewN q = w') ∧ x = .returned (.int .i64 (s.l.length : Int)) := by
  obtain ⟨k, e, rfl, h⟩ := h; exact refleft_any h
theorem refs_fail {w : World} {tb cap : Nat} {a : Option Addr} {L : List UInt8} {s : RS} (e' : Int) (h' : e' ≠ 0) (h : RefS w tb a cap L s) :
    Calls Tryd.prog 62 #[.pointer (some ⟨tb, 0, none⟩), .int .i64 e'] w fun x w' => x = .returned (.tuple #[]) ∧ RefS w' tb a cap L (s.fail e') ∧ Mod (fun k => k = tb) w w' := by
  obtain ⟨k, e, rfl, h⟩ := h
  refine (reffail_any e' h).mono fun x w' ⟨h1, h2, h3⟩ => ⟨h1, ⟨k, _, ?_, h2⟩, h3⟩
  by_cases he : e = 0
  · subst he; simp [RS.fail, refS, h']
  · simp [RS.fail, refS, he]

set_option maxRecDepth 10000 in
theorem refint_nil {w : World} {tb cap : Nat} {a : Option Addr} {L : List UInt8} {s : RS} (h : RefS w tb a cap L s) (hs : s.l = []) :
    Calls Tryd.prog 38 #[.pointer (some ⟨tb, 0, none⟩)] w fun x w' => x = .returned (.int .u64 (s.int.1 : Int)) ∧ RefS w' tb a cap L s.int.2 ∧ Mod (fun k => k = tb) w w' := by
  have H := Lib.hid h
  have e1 : s.int = (0, s.fail 2) := by simp [RS.int, hs]
  have hl := refs_left h
  rw [hs] at hl
  have HL := Lib.hid hl
  rw [e1]
  clear h hl hs e1
  go_enter Tryd.func38, Tryd.ntmps38
  go_wp2_with (first | (go_at_call 40; refine (HL.out).mono ?_; rintro e w1 ⟨⟨q, rfl⟩, rfl⟩; have H2 := Lib.hid (H.out.heap (w' := w.drewN q) rfl)) | (go_at_call 62; refine (refs_fail 2 (by decide) H2.out).mono ?_; rintro e w' ⟨rfl, hr', hM⟩))
  go_ret
  exact ⟨rfl, hr', ((Mod.refl (fun k => k = tb) w).drewN q).trans hM⟩

theorem byts_at {w : World} {a : Option Addr} {n c : Nat} {l : List UInt8} (h : Byts w (.slice a n c) l) (j : Nat) (x : UInt8) (hj : l[j]? = some x) : ∃ b off, a = some ⟨b, off, none⟩ ∧ w.cell? ⟨b, off + j, none⟩ = some (bv x) := by
  obtain ⟨_, a', cap, he, _, _, _, h5⟩ := h
  simp only [Value.slice.injEq] at he
  obtain ⟨rfl, _, _⟩ := he
  exact h5 j (bv x) (by simp [hj])
theorem refint_bytes (s : RS) (c : UInt8) (r : List UInt8) (he : s.e = 0) (hs : s.l = c :: r) : s.int = (valOf (s.bytes (lenOf c)).1, (s.bytes (lenOf c)).2) := by
  by_cases hlt : s.l.length < lenOf c
  · have e1 : s.int = (0, s.fail 2) := by simp only [RS.int, hs]; rw [if_pos (by simpa [hs] using hlt)]
    have e2 : s.bytes (lenOf c) = ([], ⟨[], 2⟩) := by unfold RS.bytes; rw [if_neg (by simp [he]), if_pos hlt]
    rw [e1, e2]; simp [RS.fail, he, valOf]
  · simp only [RS.int, hs]; rw [if_neg (by simpa [hs] using hlt)]

set_option maxRecDepth 10000 in
set_option maxHeartbeats 2000000 in
theorem refint_some {w : World} {tb cap k : Nat} {a : Option Addr} {L : List UInt8} {c : UInt8} (h : Ref w tb a cap L k 0) (hc : L[k]? = some c) :
    Calls Tryd.prog 38 #[.pointer (some ⟨tb, 0, none⟩)] w fun x w' => x = .returned (.int .u64 ((refS L k 0).int.1 : Int)) ∧ RefS w' tb a cap L (refS L k 0).int.2 ∧ Mod (fun k => k = tb) w w' := by
  have H := Lib.hid h
  have hkl : k < L.length := (List.getElem?_eq_some_iff.1 hc).1
  have hsl : (refS L k 0).l = c :: L.drop (k + 1) := by
    simp only [refS, if_true]
    rw [List.drop_eq_getElem_cons hkl]
    rw [List.getElem?_eq_getElem hkl] at hc
    rw [Option.some.inj hc]
  have e1 := refint_bytes (refS L k 0) c _ rfl hsl
  have hLE := Lib.hid (refs_left (⟨k, 0, rfl, h⟩ : RefS w tb a cap L (refS L k 0)))
  have hlen : (((refS L k 0).l.length : Int) == 0) = false := by simp [hsl]; omega
  obtain ⟨hb, hby, hk, h3, h4⟩ := h
  obtain ⟨bb, off, cap', he, hlc, hcm, hcell⟩ := byts_addr hby (by intro e; rw [e] at hkl; simp at hkl)
  simp only [Value.slice.injEq, true_and] at he
  obtain ⟨rfl, rfl⟩ := he
  have hc0 : w.cell? ⟨tb, 0, none⟩ = some (.slice (some ⟨bb, off, none⟩) L.length cap) := hb.cellAt 0 rfl
  have hc1 : w.cell? ⟨tb, 1, none⟩ = some (.int .i64 (k : Int)) := hb.cellAt 1 rfl
  have hcc : w.cell? ⟨bb, off + k, none⟩ = some (.int .u8 (c.toNat : Int)) := hcell k c hc
  obtain ⟨m, hm⟩ : ∃ m, m = L.length := ⟨_, rfl⟩
  rw [← hm] at hc0 hkl h3
  generalize (refS L k 0).l.length = ln at *
  have hbs := (refbytes_any (n := lenOf c) (⟨k, 0, rfl, H.out⟩ : RefS w tb (some ⟨bb, off, none⟩) cap L (refS L k 0)))
  have HBY : Hid (∀ q, Calls Tryd.prog 39 #[.pointer (some ⟨tb, 0, none⟩), .int .u64 (lenOf c : Int)] (w.drewN q) fun x w' => ∃ v, x = .returned v ∧ OwnB w' (w.drewN q).heap.size v ((refS L k 0).bytes (lenOf c)).1 ∧ RefS w' tb (some ⟨bb, off, none⟩) cap L ((refS L k 0).bytes (lenOf c)).2 ∧ Mod (fun k => k = tb) (w.drewN q) w') :=
    fun q => refbytes_any (lenOf c) ⟨k, 0, rfl, H.out.heap rfl⟩
  have hle := bytes_le (refS L k 0) (lenOf c)
  rw [e1]
  generalize ((refS L k 0).bytes (lenOf c)).2 = s' at *
  generalize ((refS L k 0).bytes (lenOf c)).1 = l at *
  have hc256 : (c.toNat : Int) < 256 := by have := c.toNat_lt; omega
  obtain ⟨Q, hQ, hQ3, hQp⟩ : ∃ Q : Nat, (c.toNat : Int) / 64 = Q ∧ (Q : Int) ≤ 3 ∧ 2 ^ Q = lenOf c := ⟨c.toNat / 64, by omega, by omega, rfl⟩
  have hcl := lenOf_le c
  have hki : (k : Int) < m := by omega
  have hmi : (m : Int) ≤ 5000 := by omega
  generalize lenOf c = z at *
  have HQP := Lib.hid hQp
  have HLE := Lib.hid hle
  have HCL := Lib.hid hcl
  have hwc : IntKind.i64.wrap (c.toNat : Int) = c.toNat := IntWalk.i64_in _ (by omega)
  have htd : (c.toNat : Int).tdiv 64 = Q := by rw [Int.tdiv_eq_ediv_of_nonneg (by omega)]; exact hQ
  have hwq : IntKind.i64.wrap (Q : Int) = Q := IntWalk.i64_in _ (by omega)
  clear hsl e1 hb hby hk h3 h4 hc hlc hcm hcell hbs hle hQp hcl hm hkl hc256
  go_enter Tryd.func38, Tryd.ntmps38
  go_wp2_with (go_at_call 40; refine (hLE.out).mono ?_; rintro e w1 ⟨⟨q, rfl⟩, rfl⟩)
  go_loopw [3, 4] (fun v i wr => ∃ j d p : Nat, (j : Int) ≤ Q ∧ i = .int .i64 j ∧ v = .int .i64 (p : Int) ∧ Hid (p = 2 ^ j) ∧ w.drewN d = wr) (fun _ i _ => Q - (intOf i).toNat)
  case atStart => exact ⟨0, q, 1, by omega, rfl, rfl, rfl, rfl⟩
  case round =>
    obtain ⟨j, d, p, hj, rfl, rfl, HP, rfl⟩ := hrel
    have hp8 : (p : Int) ≤ 8 := by
      have := HP.out
      have h2 : 2 ^ j ≤ 2 ^ 3 := Nat.pow_le_pow_right (by omega) (by omega)
      omega
    by_cases hlt : (j : Int) < Q
    · have hd1 : decide ((j : Int) < Q) = true := decide_eq_true hlt
      have hd2 : decide (j < Q) = true := decide_eq_true (by omega)
      go_wp2
      go_quiet (fail)
      go_wp2
      go_roundw
      case rel => exact ⟨j + 1, _, p * 2, by omega, by go_num, by go_num, by show _ = _; rw [HP.out, Nat.pow_succ], rfl⟩
      case measure => simp [intOf]; omega
    · have hd1 : decide ((j : Int) < Q) = false := decide_eq_false hlt
      have hd2 : decide (j < Q) = false := decide_eq_false (by omega)
      obtain rfl : j = Q := by omega
      obtain rfl : p = z := by rw [HP.out, HQP.out]
      go_wp2
      go_quiet (fail)
      go_wp2_with (go_at_call 39; refine (HBY.out _).mono ?_; rintro e w2 ⟨v2, rfl, ho, hr, hM⟩; obtain ⟨a2, c2, rfl, _⟩ := byts_val ho.byts)
      have HO := Lib.hid ho.byts
      obtain ⟨ll, hll⟩ : ∃ ll, ll = l.length := ⟨_, rfl⟩
      rw [← hll] at HO ⊢
      have HLL := Lib.hid hll
      have hll8 : (ll : Int) ≤ 8 := by have := HLE.out; have := HCL.out; omega
      clear ho hll
      go_loop [6, 7] (fun v i => ∃ t : Nat, t ≤ ll ∧ i = .int .i64 t ∧ v = .int .u64 (valOf (l.take t) : Int)) (fun _ i => ll - (intOf i).toNat)
      case atStart => exact ⟨0, Nat.zero_le _, rfl, by simp [valOf]⟩
      case round =>
        obtain ⟨t, ht, rfl, rfl⟩ := hrel
        by_cases hlt3 : (t : Int) < ll
        · have hkl : t < l.length := by have := HLL.out; omega
          have e1 : l[t]? = some l[t] := List.getElem?_eq_getElem hkl
          have hsn := take_snoc l t _ e1
          obtain ⟨b2, o2, rfl, g1⟩ := byts_at HO.out t _ e1
          generalize l[t] = x at *
          unfold bv at g1
          have HSN := Lib.hid hsn
          clear e1 hkl hsn
          have hx := x.toNat_lt
          have hx2 : (x.toNat : Int) < 256 := by omega
          clear hx
          by_cases h0 : t = 0
          · subst h0
            rw [Nat.add_zero] at g1
            have hv : valOf (l.take (0 + 1)) = x.toNat % 64 := by rw [HSN.out]; rfl
            have HV := Lib.hid hv
            clear hv
            simp only [show ((valOf (List.take 0 l) : Nat) : Int) = 0 from rfl]
            go_wp2
            go_round
            case rel => exact ⟨1, by omega, by go_num, by rw [show l.take 1 = l.take (0 + 1) from rfl, HV.out]; first | rfl | (simp; done)⟩
            case measure => simp [intOf]; omega
          · have hv : valOf (l.take (t + 1)) = valOf (l.take t) * 256 + x.toNat := by
              rw [HSN.out]; exact valOf_snoc _ _ (by intro e; have := congrArg List.length e; rw [List.length_take, List.length_nil] at this; have := HLL.out; omega)
            have hb := valOf_lt' l ll t HLL.out.symm hll8 (by omega) (by omega)
            have HV := Lib.hid hv
            have hbi : (valOf (l.take t) : Int) < 18014398509481984 := by omega
            have hk0 : ((t : Int) == 0) = false := by simp; omega
            clear hv hb h0
            generalize valOf (l.take t) = u at *
            go_wp2
            go_round
            case rel => exact ⟨t + 1, by omega, by go_num, by rw [HV.out]; first | rfl | (simp; done) | (push_cast; rfl)⟩
            case measure => simp [intOf]; omega
        · go_wp2
          go_ret
          have hto : l.take t = l := List.take_of_length_le (by have := HLL.out; omega)
          exact ⟨by first | rfl | (rw [hto]; rfl), hr, ((Mod.refl (fun k => k = tb) w).drewN _).trans hM⟩
theorem refint_any {w : World} {tb cap : Nat} {a : Option Addr} {L : List UInt8} {s : RS} (h : RefS w tb a cap L s) :
    Calls Tryd.prog 38 #[.pointer (some ⟨tb, 0, none⟩)] w fun x w' => x = .returned (.int .u64 (s.int.1 : Int)) ∧ RefS w' tb a cap L s.int.2 ∧ Mod (fun k => k = tb) w w' := by
  by_cases hs : s.l = []
  · exact refint_nil h hs
  · obtain ⟨k, e, rfl, h⟩ := h
    by_cases he : e = 0
    · subst he
      have hk : k < L.length := by
        rcases Nat.lt_or_ge k L.length with h' | h'
        · exact h'
        · exfalso; apply hs; simp [refS, List.drop_of_length_le h']
      exact refint_some h (List.getElem?_eq_getElem hk)
    · exfalso; apply hs; simp [refS, he]
end Go.Proofs.YtcnpiclpdgkngaaDoor
