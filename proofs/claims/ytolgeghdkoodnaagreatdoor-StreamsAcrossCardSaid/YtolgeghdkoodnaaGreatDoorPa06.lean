/- Parts of the proof: OpP. -/
import Derived.Test.YtolgeghdkoodnaaGreatDoorP01
import Derived.Test.YtolgeghdkoodnaaGreatDoorP13
import Derived.Lib.SmallJoins
set_option maxRecDepth 100000
namespace Go.Proofs.YtolgeghdkoodnaaGreatDoor
open Go.Joins Go.ChangeShapes Go.WideShapes Go.RowKit
theorem bytes_cells : ∀ l : List Value, (∀ (i : Nat), i < l.length → ∃ z : Int, l[i]? = some (.int .u8 z) ∧ 0 ≤ z ∧ z ≤ 255) → ∃ t : List UInt8, l = t.map bv
 | [], _ => ⟨[], rfl⟩
 | v :: r, h => by
  obtain ⟨z, h0, hz⟩ := h 0 (by simp)
  obtain ⟨t, ht⟩ := bytes_cells r (fun i hi => by
   obtain ⟨z, h1, h2⟩ := h (i + 1) (by simp; omega)
   exact ⟨z, by simpa using h1, h2⟩)
  simp at h0
  exact ⟨UInt8.ofNat z.toNat :: t, by rw [h0, ht, List.map_cons, bv_of hz]⟩
theorem five {l : List Value} (h : l.length = 21) : ∃ c0 c1 c2 c3 c4 r, l = c0 :: c1 :: c2 :: c3 :: c4 :: r ∧ r.length = 16 := by
 match l, h with
 | c0 :: c1 :: c2 :: c3 :: c4 :: r, h => exact ⟨c0, c1, c2, c3, c4, r, rfl, by simpa using h⟩
theorem open_pm {H : Type} {enc : TypeId × Value → H} {W : World} {v : Value} {d : DataW H} {p : List MemPlace} {base : Nat} (hval : Value.okWide Tryz.prog W .any base 29 v)
  (h : DataW.Trod enc Tryz.prog W 0 (fun _ => true) true 29 v d p) : ∃ q : Pm, v = pmV q ∧ q.t.length = 16 := by
 obtain ⟨cs, rfl, hsz⟩ := okWide_struct Tryz.underlying29 hval
 obtain ⟨l⟩ := cs
 have hl : l.length = 21 := hsz.trans (show Program.cellsOf Tryz.prog 29 = 21 by kernel_rfl)
 obtain ⟨c0, c1, c2, c3, c4, r, rfl, hr⟩ := five hl
 obtain ⟨fuel, hf⟩ := h
 obtain ⟨xs, n, _, hx, _, hlen, hg⟩ := DataW.trod_struct Tryz.underlying29 hf
 have z8 : Program.cellsOf Tryz.prog 26 = 1 := by kernel_rfl
 have zb : Program.cellsOf Tryz.prog 4 = 1 := by kernel_rfl
 have zt : Program.cellsOf Tryz.prog 27 = 16 := by kernel_rfl
 have zu : Program.cellsOf Tryz.prog 5 = 1 := by kernel_rfl
 match xs, hlen with
 | [y0, y1, y2, y3, y4, y5], _ =>
  have h0 : DataW.trod enc Tryz.prog W 0 (fun _ => true) true n 26 [c0] = some y0 := by simpa [Value.cells, z8] using hg 0 _ rfl
  have h1 : DataW.trod enc Tryz.prog W 0 (fun _ => true) true n 26 [c1] = some y1 := by simpa [Value.cells, z8] using hg 1 _ rfl
  have h2 : DataW.trod enc Tryz.prog W 0 (fun _ => true) true n 26 [c2] = some y2 := by simpa [Value.cells, z8] using hg 2 _ rfl
  have h3 : DataW.trod enc Tryz.prog W 0 (fun _ => true) true n 26 [c3] = some y3 := by simpa [Value.cells, z8] using hg 3 _ rfl
  have h4 : DataW.trod enc Tryz.prog W 0 (fun _ => true) true n 4 [c4] = some y4 := by simpa [Value.cells, zb] using hg 4 _ rfl
  have h5 : DataW.trod enc Tryz.prog W 0 (fun _ => true) true n 27 r = some y5 := by
   have := hg 5 _ rfl
   simp [Value.cells, zt] at this
   rwa [List.take_of_length_le (by omega)] at this
  obtain ⟨n0, e0, _, w0⟩ := DataW.trod_int Tryz.underlying26 h0
  obtain ⟨n1, e1, _, w1⟩ := DataW.trod_int Tryz.underlying26 h1
  obtain ⟨n2, e2, _, w2⟩ := DataW.trod_int Tryz.underlying26 h2
  obtain ⟨n3, e3, _, w3⟩ := DataW.trod_int Tryz.underlying26 h3
  obtain ⟨b4, e4, _⟩ := DataW.trod_bool Tryz.underlying4 h4
  obtain rfl : c0 = .int .u64 n0 := by simpa using e0
  obtain rfl : c1 = .int .u64 n1 := by simpa using e1
  obtain rfl : c2 = .int .u64 n2 := by simpa using e2
  obtain rfl : c3 = .int .u64 n3 := by simpa using e3
  obtain rfl : c4 = .bool b4 := by simpa using e4
  obtain ⟨m0, rfl⟩ := Int.eq_ofNat_of_zero_le (bounds_u64 w0).1
  obtain ⟨m1, rfl⟩ := Int.eq_ofNat_of_zero_le (bounds_u64 w1).1
  obtain ⟨m2, rfl⟩ := Int.eq_ofNat_of_zero_le (bounds_u64 w2).1
  obtain ⟨m3, rfl⟩ := Int.eq_ofNat_of_zero_le (bounds_u64 w3).1
  obtain ⟨ys, m, _, _, _, hys, hel⟩ := DataW.trod_array Tryz.underlying27 h5
  obtain ⟨t, ht⟩ := bytes_cells r (fun i hi => by
   have hi' : i < 16 := by omega
   have h1 := hel i hi'
   rw [zu, Nat.mul_one, List.getElem?_eq_getElem (by omega)] at h1
   obtain ⟨z, e, _, wz⟩ := DataW.trod_int Tryz.underlying5 h1
   have e2 : r[i]? = some (.int .u8 z) := by
    have := congrArg (fun x => x[0]?) e
    simpa [List.getElem?_take] using this
   exact ⟨z, e2, bounds_u8 wz⟩)
  subst ht
  exact ⟨⟨m0, m1, m2, m3, b4, t⟩, rfl, by simpa using hr⟩
end Go.Proofs.YtolgeghdkoodnaaGreatDoor
