/- Parameters as a law's parameter; the walk of ParamsRead. -/
import Derived.Test.YtacgcpofpmkgnaaDoorPaP
import Derived.Test.YtacgcpofpmkgnaaDoorLaw
namespace Go.Proofs.YtacgcpofpmkgnaaDoor
open Go.ChangeShapes Go.WideShapes Go.RowKit

theorem bytes_cells : ∀ l : List Value, (∀ (i : Nat), i < l.length → ∃ z : Int, l[i]? = some (.int .u8 z) ∧ 0 ≤ z ∧ z ≤ 255) → ∃ t : List UInt8, l = t.map bv
  | [], _ => ⟨[], rfl⟩
  | v :: r, h => by
    obtain ⟨z, h0, hz⟩ := h 0 (by simp)
    obtain ⟨t, ht⟩ := bytes_cells r (fun i hi => by
      obtain ⟨z, h1, h2⟩ := h (i + 1) (by simp; omega)
      exact ⟨z, by simpa using h1, h2⟩)
    simp at h0
    exact ⟨UInt8.ofNat z.toNat :: t, by rw [h0, ht, List.map_cons, bv_of hz]⟩
theorem five {l : List Value} (h : l.length = 21) : ∃ c0 c1 c2 c3 c4 r, l = c0 :: c1 :: c2 :: c3 :: c4 :: r ∧ r.length = 16 := by
  match l, h with
  | c0 :: c1 :: c2 :: c3 :: c4 :: r, h => exact ⟨c0, c1, c2, c3, c4, r, rfl, by simpa using h⟩
/-- Parameters that came in. -/
theorem open_pm {H : Type} {enc : TypeId × Value → H} {W : World} {v : Value} {d : DataW H} {p : List MemPlace} {base : Nat} (hval : Value.okWide Tryd.prog W .any base 25 v)
    (h : DataW.Trod enc Tryd.prog W 0 (fun _ => true) true 25 v d p) : ∃ q : Pm, v = pmV q ∧ q.t.length = 16 := by
  obtain ⟨cs, rfl, hsz⟩ := okWide_struct Tryd.underlying25 hval
  obtain ⟨l⟩ := cs
  have hl : l.length = 21 := hsz.trans (show Program.cellsOf Tryd.prog 25 = 21 by kernel_rfl)
  obtain ⟨c0, c1, c2, c3, c4, r, rfl, hr⟩ := five hl
  obtain ⟨fuel, hf⟩ := h
  obtain ⟨xs, n, _, hx, _, hlen, hg⟩ := DataW.trod_struct Tryd.underlying25 hf
  have z8 : Program.cellsOf Tryd.prog 22 = 1 := by kernel_rfl
  have zb : Program.cellsOf Tryd.prog 4 = 1 := by kernel_rfl
  have zt : Program.cellsOf Tryd.prog 23 = 16 := by kernel_rfl
  have zu : Program.cellsOf Tryd.prog 5 = 1 := by kernel_rfl
  match xs, hlen with
  | [y0, y1, y2, y3, y4, y5], _ =>
    have h0 : DataW.trod enc Tryd.prog W 0 (fun _ => true) true n 22 [c0] = some y0 := by simpa [Value.cells, z8] using hg 0 _ rfl
    have h1 : DataW.trod enc Tryd.prog W 0 (fun _ => true) true n 22 [c1] = some y1 := by simpa [Value.cells, z8] using hg 1 _ rfl
    have h2 : DataW.trod enc Tryd.prog W 0 (fun _ => true) true n 22 [c2] = some y2 := by simpa [Value.cells, z8] using hg 2 _ rfl
    have h3 : DataW.trod enc Tryd.prog W 0 (fun _ => true) true n 22 [c3] = some y3 := by simpa [Value.cells, z8] using hg 3 _ rfl
    have h4 : DataW.trod enc Tryd.prog W 0 (fun _ => true) true n 4 [c4] = some y4 := by simpa [Value.cells, zb] using hg 4 _ rfl
    have h5 : DataW.trod enc Tryd.prog W 0 (fun _ => true) true n 23 r = some y5 := by
      have := hg 5 _ rfl
      simp [Value.cells, zt] at this
      rwa [List.take_of_length_le (by omega)] at this
    obtain ⟨n0, e0, _, w0⟩ := DataW.trod_int Tryd.underlying22 h0
    obtain ⟨n1, e1, _, w1⟩ := DataW.trod_int Tryd.underlying22 h1
    obtain ⟨n2, e2, _, w2⟩ := DataW.trod_int Tryd.underlying22 h2
    obtain ⟨n3, e3, _, w3⟩ := DataW.trod_int Tryd.underlying22 h3
    obtain ⟨b4, e4, _⟩ := DataW.trod_bool Tryd.underlying4 h4
    obtain rfl : c0 = .int .u64 n0 := by simpa using e0
    obtain rfl : c1 = .int .u64 n1 := by simpa using e1
    obtain rfl : c2 = .int .u64 n2 := by simpa using e2
    obtain rfl : c3 = .int .u64 n3 := by simpa using e3
    obtain rfl : c4 = .bool b4 := by simpa using e4
    obtain ⟨m0, rfl⟩ := Int.eq_ofNat_of_zero_le (bounds_u64 w0).1
    obtain ⟨m1, rfl⟩ := Int.eq_ofNat_of_zero_le (bounds_u64 w1).1
    obtain ⟨m2, rfl⟩ := Int.eq_ofNat_of_zero_le (bounds_u64 w2).1
    obtain ⟨m3, rfl⟩ := Int.eq_ofNat_of_zero_le (bounds_u64 w3).1
    obtain ⟨ys, m, _, _, _, hys, hel⟩ := DataW.trod_array Tryd.underlying23 h5
    obtain ⟨t, ht⟩ := bytes_cells r (fun i hi => by
      have hi' : i < 16 := by omega
      have h1 := hel i hi'
      rw [zu, Nat.mul_one, List.getElem?_eq_getElem (by omega)] at h1
      obtain ⟨z, e, _, wz⟩ := DataW.trod_int Tryd.underlying5 h1
      have e2 : r[i]? = some (.int .u8 z) := by
        have := congrArg (fun x => x[0]?) e
        simpa [List.getElem?_take] using this
      exact ⟨z, e2, bounds_u8 wz⟩)
    subst ht
    exact ⟨⟨m0, m1, m2, m3, b4, t⟩, rfl, by simpa using hr⟩

set_option maxHeartbeats 2000000 in
set_option maxRecDepth 10000 in
theorem lread_any {w : World} {v : Value} {l : List UInt8} (hT : Tabs w) (hb : Byts w v l) : Calls Tryd.prog 4 #[v] w fun e w' => e = .returned (.bool true) ∧ Below w.heap.size w w' := by
  have HT := Lib.hid hT
  have HB := Lib.hid hb
  obtain ⟨a, cap, rfl, _⟩ := byts_val hb
  clear hT hb
  by_cases hl : l.length ≤ 500
  case neg =>
    have hg : decide ((500 : Int) < (l.length : Int)) = true := decide_eq_true (by omega)
    clear hl
    go_enter Tryd.func4, Tryd.ntmps4
    go_wp2_with fail
    refine (alive_any _ HT.out).mono ?_
    rintro e w1 ⟨rfl, hM1⟩
    go_wp2_with fail
    go_ret
    exact ⟨rfl, hM1.below (Nat.le_refl _) (fun _ _ h => h.elim)⟩
  case pos =>
    have hg : decide ((500 : Int) < (l.length : Int)) = false := decide_eq_false (by omega)
    have HL := Lib.hid hl
    obtain ⟨q, z, hq⟩ : ∃ q z, preadF l = (q, z) := ⟨_, _, rfl⟩
    have hq16 : q.t.length = 16 := by have := preadF_len l; rw [hq] at this; exact this
    have HQ := Lib.hid hq
    have H16 := Lib.hid hq16
    have ZQ := Lib.hid (size25 q hq16)
    have OQ := Lib.hid (pm_ones q)
    have HEQ := Lib.hid (fun w => pm_eql w q q hq16 hq16)
    rw [show pmEq q q = true from (pmEq_iff q q).2 rfl] at HEQ
    clear hl hq hq16
    go_enter Tryd.func4, Tryd.ntmps4
    go_wp2_with fail
    refine (alive_any _ HT.out).mono ?_
    rintro e w1 ⟨rfl, hM1⟩
    have HB1 := Lib.hid (byts_kept HB.out hM1)
    have HM1 := Lib.hid hM1
    clear hM1
    go_wp2_with fail
    refine (read_c HB1.out (by have := HL.out; omega) HQ.out).mono ?_
    rintro e w2 ⟨rfl, hM2⟩
    have HB2 := Lib.hid (byts_kept HB1.out hM2)
    have HM2 := Lib.hid (HM1.out.trans hM2)
    clear hM2 HM1 HB1
    go_wp2_with ((with_reducible refine wpList_store_blk ?_ 25 (.tmp 3) (.tmp 15) ?_ w2.heap.size ?_ _ (pmC q) ?_ 25 (Blk.new _ _ _) ZQ.out ?_ OQ.out ?_); (· exact rfl); (· exact rfl); (· exact rfl); (· exact rfl); (· rw [pmC_size q H16.out]; rfl); intro w3 hB hM; obtain ⟨hP3, hM3⟩ := pm_new hB hM H16.out; have HP3 := Lib.hid hP3; have HB3 := Lib.hid (byts_kept HB2.out hM3); have HM3 := Lib.hid (HM2.out.trans hM3); clear hB hM hP3 hM3 HB2 HM2)
    refine (refread_c HB3.out (by have := HL.out; omega) HQ.out).mono ?_
    rintro e w4 ⟨rfl, hM4⟩
    have HP4 := Lib.hid (HP3.out.kept hM4)
    have HM4 := Lib.hid (HM3.out.trans hM4)
    clear hM4 HM3 HB3 HP3
    go_wp2_with (first | ((with_reducible refine wpList_store_blk ?_ 25 (.tmp 5) (.tmp 20) ?_ w4.heap.size ?_ _ (pmC q) ?_ 25 (Blk.new _ _ _) ZQ.out ?_ OQ.out ?_); (· exact rfl); (· exact rfl); (· exact rfl); (· exact rfl); (· rw [pmC_size q H16.out]; rfl); intro w5 hB hM; obtain ⟨hP5, hM5⟩ := pm_new hB hM H16.out; have HP5 := Lib.hid (HP4.out.kept hM5); have HQ5 := Lib.hid hP5; have HM5 := Lib.hid (HM4.out.trans hM5); have l3 := HP5.out.load; have l5 := HQ5.out.load; clear hB hM hP5 hM5 HP4 HM4) | ((with_reducible refine wpList_load_g 25 (.tmp 3) ?_ ?_ (.pointer (some ⟨w2.heap.size, 0, none⟩)) (.agg (pmC q)) ?_ l3 ?_); (· exact rfl); (· exact rfl); (· exact rfl)) | ((with_reducible refine wpList_load_g 25 (.tmp 5) ?_ ?_ (.pointer (some ⟨w4.heap.size, 0, none⟩)) (.agg (pmC q)) ?_ l5 ?_); (· exact rfl); (· exact rfl); (· exact rfl)) | ((with_reducible refine wpList_eq_g .eql 25 25 (.tmp 26) (.tmp 27) ?_ ?_ (pmC q) (pmC q) ?_ ?_ guard25 true (HEQ.out _) ?_); (· exact rfl); (· exact rfl); (· exact rfl); (· exact rfl)))
    go_ret
    exact ⟨rfl, HM5.out.below (Nat.le_refl _) (fun _ _ h => h.elim)⟩
end Go.Proofs.YtacgcpofpmkgnaaDoor
