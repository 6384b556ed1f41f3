/- A header that came in, as a law's parameter. -/
import Derived.Test.YtolbeamphmoimaaDoorHdA
import Derived.Test.YtolbeamphmoimaaDoorLaw
import Derived.Lib.SmallJoins
namespace Go.Proofs.YtolbeamphmoimaaDoor
open Go.Joins Go.ChangeShapes Go.WideShapes Go.RowKit Go.Deep

section
variable {H : Type} {enc : TypeId × Value → H} {P : Program} {w : World} {base : Nat} {spare : Nat → Bool} {held : Bool}
theorem open_agg9 {r : Reach} {b0 : Nat} {t : TypeId} {f0 f1 f2 f3 f4 f5 f6 f7 f8 : Field} {v : Value} {d : DataW H} {p : List MemPlace} (hs : P.underlying t = some (.struct #[f0, f1, f2, f3, f4, f5, f6, f7, f8])) (hone : oneCellFields P #[f0, f1, f2, f3, f4, f5, f6, f7, f8] = true) (hC : P.cellsOf t = 9)
    (hv : Value.okWide P w r b0 t v) (h : DataW.Trod enc P w base spare held t v d p) :
    ∃ (v0 v1 v2 v3 v4 v5 v6 v7 v8 : Value) (y0 y1 y2 y3 y4 y5 y6 y7 y8 : DataW H × List MemPlace) (n : Nat), v = .agg #[v0, v1, v2, v3, v4, v5, v6, v7, v8] ∧ d = .agg [y0.1, y1.1, y2.1, y3.1, y4.1, y5.1, y6.1, y7.1, y8.1] ∧
      DataW.trod enc P w base spare held n f0.type [v0] = some y0 ∧ DataW.trod enc P w base spare held n f1.type [v1] = some y1 ∧ DataW.trod enc P w base spare held n f2.type [v2] = some y2 ∧ DataW.trod enc P w base spare held n f3.type [v3] = some y3 ∧ DataW.trod enc P w base spare held n f4.type [v4] = some y4 ∧ DataW.trod enc P w base spare held n f5.type [v5] = some y5 ∧ DataW.trod enc P w base spare held n f6.type [v6] = some y6 ∧ DataW.trod enc P w base spare held n f7.type [v7] = some y7 ∧ DataW.trod enc P w base spare held n f8.type [v8] = some y8 := by
  obtain ⟨cs, rfl, hsz⟩ := okWide_struct hs hv
  obtain ⟨l⟩ := cs
  match l, hsz.trans hC with
  | [c0, c1, c2, c3, c4, c5, c6, c7, c8], _ =>
    obtain ⟨fuel, hf⟩ := h
    obtain ⟨xs, n, _, hx, _, hlen, hg⟩ := DataW.trod_struct hs hf
    obtain ⟨o0, k0⟩ := hone_of hone 0 f0 rfl
    obtain ⟨o1, k1⟩ := hone_of hone 1 f1 rfl
    obtain ⟨o2, k2⟩ := hone_of hone 2 f2 rfl
    obtain ⟨o3, k3⟩ := hone_of hone 3 f3 rfl
    obtain ⟨o4, k4⟩ := hone_of hone 4 f4 rfl
    obtain ⟨o5, k5⟩ := hone_of hone 5 f5 rfl
    obtain ⟨o6, k6⟩ := hone_of hone 6 f6 rfl
    obtain ⟨o7, k7⟩ := hone_of hone 7 f7 rfl
    obtain ⟨o8, k8⟩ := hone_of hone 8 f8 rfl
    match xs, hlen with
    | [y0, y1, y2, y3, y4, y5, y6, y7, y8], _ =>
      simp only [Prod.mk.injEq] at hx
      exact ⟨c0, c1, c2, c3, c4, c5, c6, c7, c8, y0, y1, y2, y3, y4, y5, y6, y7, y8, n, rfl, by simpa using hx.1, by simpa [Value.cells, o0, k0] using hg 0 f0 rfl, by simpa [Value.cells, o1, k1] using hg 1 f1 rfl, by simpa [Value.cells, o2, k2] using hg 2 f2 rfl, by simpa [Value.cells, o3, k3] using hg 3 f3 rfl, by simpa [Value.cells, o4, k4] using hg 4 f4 rfl, by simpa [Value.cells, o5, k5] using hg 5 f5 rfl, by simpa [Value.cells, o6, k6] using hg 6 f6 rfl, by simpa [Value.cells, o7, k7] using hg 7 f7 rfl, by simpa [Value.cells, o8, k8] using hg 8 f8 rfl⟩
end

/-- A field that is a slice of bytes. -/
theorem field_byts {H : Type} {enc : TypeId × Value → H} {W : World} {v : Value} {y : DataW H × List MemPlace} {fuel : Nat} (hf : DataW.trod enc Tryd.prog W 0 (fun _ => true) true fuel 23 [v] = some y) :
    ∃ l : List UInt8, Byts W v l ∧ (y.1 = .nil ∧ l = [] ∨ ∃ es sp, y.1 = .slice es sp ∧ l.length ≤ es.length + sp.length) := by
  rcases open_ints Tryd.underlying23 Tryd.underlying5 (by kernel_rfl) hf with ⟨hcs, hx⟩ | ⟨a, len', cap', zs, hcs, _, hl, hm, hz, hx, hcell, hwz⟩
  · simp at hcs
    subst hcs
    subst hx
    exact ⟨[], Sl.nil _ _, .inl ⟨rfl, rfl⟩⟩
  · simp at hcs
    subst hcs
    subst hx
    simp at hz
    have hwf : ∀ z ∈ zs, 0 ≤ z ∧ z ≤ 255 := fun z hz => bounds_u8 (hwz z hz)
    have hlen : ((zs.take len').map (fun z => UInt8.ofNat z.toNat)).length = len' := by simp; omega
    refine ⟨(zs.take len').map (fun z => UInt8.ofNat z.toNat), ?_, .inr ⟨_, _, rfl, by simp [lits]⟩⟩
    refine ⟨by simp, some a, cap', by rw [hlen], by rw [hlen]; omega, hm, fun h => by simp at h, fun j u hu => ?_⟩
    have hj : j < len' := by
      have := (List.getElem?_eq_some_iff.1 hu).1
      rw [List.length_map, hlen] at this
      exact this
    have ha : a.spot = none := by
      have := hcell 0 (by omega)
      unfold Addr.add at this
      simp only [if_true] at this
      cases hs : a.spot with
      | none => rfl
      | some x =>
        exfalso
        unfold World.cell? at this
        rw [hs] at this
        split at this <;> simp at this
    refine ⟨a.block, a.off, ?_, ?_⟩
    · cases a; simp_all
    · have hc := hcell j (by omega)
      have e : a.add j = ⟨a.block, a.off + j, none⟩ := by
        unfold Addr.add
        split
        · subst_vars; cases a; simp_all
        · rfl
      rw [e] at hc
      rw [hc]
      have hjz : j < zs.length := by omega
      have : ((zs.take len').map (fun z => UInt8.ofNat z.toNat)).map bv = (zs.take len').map (Value.int .u8) := by
        rw [List.map_map]
        apply List.map_congr_left
        intro z hz
        exact bv_of (hwf z (List.mem_of_mem_take hz))
      rw [this] at hu
      rw [List.getElem?_map, List.getElem?_take, if_pos hj] at hu
      rw [← hu]
      simp [List.getD, hjz]
/-- A header that came in. -/
theorem open_hd {H : Type} {enc : TypeId × Value → H} {W : World} {v : Value} {d : DataW H} {p : List MemPlace} {base : Nat} (hval : Value.okWide Tryd.prog W .any base 25 v)
    (h : DataW.Trod enc Tryd.prog W 0 (fun _ => true) true 25 v d p) (hsz : (d.weights Tryd.prog 25).all (· ≤ reachBytes) = true) :
    ∃ (hd : Hd) (vd vs vt vc : Value), v = hdV hd vd vs vt vc ∧ HdV W hd vd vs vt vc := by
  obtain ⟨v0, v1, v2, v3, v4, v5, v6, v7, v8, y0, y1, y2, y3, y4, y5, y6, y7, y8, n, rfl, rfl, h0, h1, h2, h3, h4, h5, h6, h7, h8⟩ := open_agg9 Tryd.underlying25 (by kernel_rfl) (by kernel_rfl) hval h
  have hw : (DataW.weightsEach Tryd.prog [4, 4, 3, 22, 23, 23, 23, 23, 3] [y0.1, y1.1, y2.1, y3.1, y4.1, y5.1, y6.1, y7.1, y8.1]).all (· ≤ reachBytes) = true := by
    have := hsz
    rw [DataW.weights, Tryd.underlying25] at this
    exact this
  obtain ⟨b0, e0, z0⟩ := DataW.trod_bool Tryd.underlying4 h0
  obtain ⟨b1, e1, z1⟩ := DataW.trod_bool Tryd.underlying4 h1
  obtain ⟨n2, e2, z2, w2⟩ := DataW.trod_int Tryd.underlying3 h2
  obtain ⟨n3, e3, z3, w3⟩ := DataW.trod_int Tryd.underlying22 h3
  obtain ⟨n8, e8, z8, w8⟩ := DataW.trod_int Tryd.underlying3 h8
  obtain rfl : v0 = .bool b0 := by simpa using e0
  obtain rfl : v1 = .bool b1 := by simpa using e1
  obtain rfl : v2 = .int .i64 n2 := by simpa using e2
  obtain rfl : v3 = .int .u32 n3 := by simpa using e3
  obtain rfl : v8 = .int .i64 n8 := by simpa using e8
  have q2 := bounds_i64 w2
  have q8 := bounds_i64 w8
  have q3 : 0 ≤ n3 ∧ n3 ≤ 4294967295 := bounds_u32 w3
  obtain ⟨l4, hb4, hd4⟩ := field_byts h4
  have hr4 : l4.length * 1 ≤ 140737488351232 := by
    rcases hd4 with ⟨_, rfl⟩ | ⟨es, sp, hy, hle⟩
    · simp
    · have hz := sized_slice hw (j := 4) (t := 23) (e := 5) (elems := es) (spare := sp) rfl (by simp [hy]) Tryd.underlying23
      rw [show Tryd.prog.bytesOf 5 = 1 by kernel_rfl] at hz
      unfold reachBytes at hz
      omega
  obtain ⟨l5, hb5, hd5⟩ := field_byts h5
  have hr5 : l5.length * 1 ≤ 140737488351232 := by
    rcases hd5 with ⟨_, rfl⟩ | ⟨es, sp, hy, hle⟩
    · simp
    · have hz := sized_slice hw (j := 5) (t := 23) (e := 5) (elems := es) (spare := sp) rfl (by simp [hy]) Tryd.underlying23
      rw [show Tryd.prog.bytesOf 5 = 1 by kernel_rfl] at hz
      unfold reachBytes at hz
      omega
  obtain ⟨l6, hb6, hd6⟩ := field_byts h6
  have hr6 : l6.length * 1 ≤ 140737488351232 := by
    rcases hd6 with ⟨_, rfl⟩ | ⟨es, sp, hy, hle⟩
    · simp
    · have hz := sized_slice hw (j := 6) (t := 23) (e := 5) (elems := es) (spare := sp) rfl (by simp [hy]) Tryd.underlying23
      rw [show Tryd.prog.bytesOf 5 = 1 by kernel_rfl] at hz
      unfold reachBytes at hz
      omega
  obtain ⟨l7, hb7, hd7⟩ := field_byts h7
  have hr7 : l7.length * 1 ≤ 140737488351232 := by
    rcases hd7 with ⟨_, rfl⟩ | ⟨es, sp, hy, hle⟩
    · simp
    · have hz := sized_slice hw (j := 7) (t := 23) (e := 5) (elems := es) (spare := sp) rfl (by simp [hy]) Tryd.underlying23
      rw [show Tryd.prog.bytesOf 5 = 1 by kernel_rfl] at hz
      unfold reachBytes at hz
      omega
  obtain ⟨m3, rfl⟩ := Int.eq_ofNat_of_zero_le q3.1
  exact ⟨⟨b0, b1, n2, m3, l4, l5, l6, l7, n8⟩, v4, v5, v6, v7, rfl, ⟨hb4, hb5, hb6, hb7, by show m3 < _; omega, by show (l4.length : Int) ≤ _; omega, by show (l5.length : Int) ≤ _; omega, by show (l6.length : Int) ≤ _; omega, by show (l7.length : Int) ≤ _; omega, by show _ ≤ n2 ∧ n2 ≤ _; omega, by show _ ≤ n8 ∧ n8 ≤ _; omega⟩⟩
end Go.Proofs.YtolbeamphmoimaaDoor
