/- Frames that came in, as a law's parameters. -/
import Derived.Test.YteegonadodmeeaaDoorGcG
import Derived.Test.YteegonadodmeeaaDoorLaw
import Derived.Lib.SmallJoins
import Derived.Deep.SlicePairs
namespace Go.Proofs.YteegonadodmeeaaDoor
open Go.Joins Go.ChangeShapes Go.WideShapes Go.RowKit Go.Deep

theorem list_of {α : Type} : ∀ (n : Nat) (Q : Nat → α → Prop), (∀ i, i < n → ∃ x, Q i x) → ∃ l : List α, l.length = n ∧ ∀ i x, l[i]? = some x → Q i x
  | 0, _, _ => ⟨[], rfl, fun i x h => by simp at h⟩
  | n + 1, Q, h => by
    obtain ⟨l, hl, hq⟩ := list_of n Q (fun i hi => h i (by omega))
    obtain ⟨x, hx⟩ := h n (by omega)
    refine ⟨l ++ [x], by simp [hl], fun i y hy => ?_⟩
    by_cases hi : i < l.length
    · rw [List.getElem?_append_left hi] at hy
      exact hq i y hy
    · rw [List.getElem?_append_right (by omega)] at hy
      have h0 : i - l.length = 0 := by
        have := (List.getElem?_eq_some_iff.1 hy).1
        simp at this
        omega
      rw [h0] at hy
      simp at hy
      subst hy
      rw [show i = n by omega]
      exact hx
theorem pairs_inv {α : Type} (p q : α → Value) : ∀ (l : List α) (j : Nat) (u : Value), (l.flatMap fun s => [p s, q s])[j]? = some u → ∃ i s, l[i]? = some s ∧ (j = i * 2 ∧ u = p s ∨ j = i * 2 + 1 ∧ u = q s)
  | [], j, u, h => by simp at h
  | s :: l, 0, u, h => ⟨0, s, rfl, .inl ⟨rfl, by simpa using h.symm⟩⟩
  | s :: l, 1, u, h => ⟨0, s, rfl, .inr ⟨rfl, by simpa using h.symm⟩⟩
  | s :: l, j + 2, u, h => by
    have h' : (l.flatMap fun s => [p s, q s])[j]? = some u := by simpa using h
    obtain ⟨i, t, ht, hj⟩ := pairs_inv p q l j u h'
    rcases hj with ⟨rfl, rfl⟩ | ⟨rfl, rfl⟩
    · exact ⟨i + 1, t, by simpa using ht, .inl ⟨by omega, rfl⟩⟩
    · exact ⟨i + 1, t, by simpa using ht, .inr ⟨by omega, rfl⟩⟩
theorem spot_none {W : World} {a : Addr} {v : Value} (h : W.cell? (a.add 0) = some v) : a.spot = none := by
  unfold Addr.add at h
  simp only [if_true] at h
  cases hs : a.spot with
  | none => rfl
  | some x =>
    exfalso
    unfold World.cell? at h
    rw [hs] at h
    split at h <;> simp at h
theorem add_plain {a : Addr} (h : a.spot = none) (j : Nat) : a.add j = ⟨a.block, a.off + j, none⟩ := by
  unfold Addr.add
  obtain ⟨ab, ao, sp⟩ := a
  simp only at h
  subst h
  split
  · rename_i h0; subst h0; rfl
  · rfl
theorem add_add' (a : Addr) (h : a.spot = none) (i j : Nat) : (a.add i).add j = ⟨a.block, a.off + i + j, none⟩ := by
  rw [add_plain h, add_plain rfl]
/-- Pairs of one cell each, behind a slice. -/
theorem sl_pairs {α : Type} {W : World} {a : Addr} {len cap : Nat} (p q : α → Value) (l : List α) (hl : l.length = len) (hc : len ≤ cap) (hm : cap ≤ maxLen)
    (h : ∀ i s, l[i]? = some s → W.cell? (a.add (i * 2)) = some (p s) ∧ W.cell? (a.add (i * 2 + 1)) = some (q s)) : Sl W 2 (.slice (some a) len cap) len (l.flatMap fun s => [p s, q s]) := by
  refine ⟨?_, some a, cap, rfl, hc, hm, fun h => by simp at h, fun j u hu => ?_⟩
  · rw [← hl]
    clear h hl
    induction l with
    | nil => rfl
    | cons x m ih => rw [List.flatMap_cons, List.length_append, ih, List.length_cons]; simp; omega
  · obtain ⟨i, s, hs, hj⟩ := pairs_inv p q l j u hu
    have h0 : 0 < l.length := by have := (List.getElem?_eq_some_iff.1 hs).1; omega
    have hsp := spot_none (by have := (h 0 l[0] (List.getElem?_eq_getElem h0)).1; simpa using this)
    obtain ⟨e1, e2⟩ := h i s hs
    rw [add_plain hsp] at e1 e2
    refine ⟨a.block, a.off, ?_, ?_⟩
    · obtain ⟨ab, ao, sp⟩ := a; simp only at hsp; subst hsp; rfl
    · rcases hj with ⟨rfl, rfl⟩ | ⟨rfl, rfl⟩
      · exact e1
      · exact e2
theorem bytes_cells : ∀ l : List Value, (∀ (i : Nat), i < l.length → ∃ z : Int, l[i]? = some (.int .u8 z) ∧ 0 ≤ z ∧ z ≤ 255) → ∃ t : List UInt8, l = t.map bv
  | [], _ => ⟨[], rfl⟩
  | v :: r, h => by
    obtain ⟨z, h0, hz⟩ := h 0 (by simp)
    obtain ⟨t, ht⟩ := bytes_cells r (fun i hi => by
      obtain ⟨z, h1, h2⟩ := h (i + 1) (by simp; omega)
      exact ⟨z, by simpa using h1, h2⟩)
    simp at h0
    exact ⟨UInt8.ofNat z.toNat :: t, by rw [h0, ht, List.map_cons, bv_of hz]⟩
theorem eight {l : List Value} (h : l.length = 24) : ∃ c0 c1 c2 c3 c4 c5 c6 c7 r, l = c0 :: c1 :: c2 :: c3 :: c4 :: c5 :: c6 :: c7 :: r ∧ r.length = 16 := by
  match l, h with
  | c0 :: c1 :: c2 :: c3 :: c4 :: c5 :: c6 :: c7 :: r, h => exact ⟨c0, c1, c2, c3, c4, c5, c6, c7, r, rfl, by simpa using h⟩
section
variable {H : Type} {enc : TypeId × Value → H} {W : World}
theorem cells_byts {fuel : Nat} {v : Value} {y : DataW H × List MemPlace} (h : DataW.trod enc Tryd.prog W 0 (fun _ => true) true fuel 23 [v] = some y) : ∃ l : List UInt8, Byts W v l := by
  rcases open_ints Tryd.underlying23 Tryd.underlying5 (by kernel_rfl) h with ⟨hcs, hx⟩ | ⟨a, len, cap, zs, hcs, _, hl, hm, hz, hx, hcell, hwz⟩
  · simp at hcs
    subst hcs
    exact ⟨[], Sl.nil _ _⟩
  · simp at hcs
    subst hcs
    simp at hz
    have hwf : ∀ z ∈ zs, 0 ≤ z ∧ z ≤ 255 := fun z hz => bounds_u8 (hwz z hz)
    have each : ∀ i, i < len → ∃ x : UInt8, W.cell? (a.add i) = some (bv x) := by
      intro i hi
      have hiz : i < zs.length := by omega
      refine ⟨UInt8.ofNat zs[i].toNat, ?_⟩
      rw [hcell i (by omega), bv_of (hwf _ (List.getElem_mem hiz))]
      simp [List.getD, hiz]
    obtain ⟨l, hll, hq⟩ := list_of len _ each
    refine ⟨l, by simp, some a, cap, by rw [hll], by omega, hm, fun h => by simp at h, fun j u hu => ?_⟩
    obtain ⟨x, hx, rfl⟩ := by simpa [List.getElem?_map] using hu
    have h0 : 0 < l.length := by have := (List.getElem?_eq_some_iff.1 hx).1; omega
    have hsp := spot_none (hq 0 l[0] (List.getElem?_eq_getElem h0))
    have e1 := hq j x hx
    rw [add_plain hsp] at e1
    exact ⟨a.block, a.off, by obtain ⟨ab, ao, sp⟩ := a; simp only at hsp; subst hsp; rfl, e1⟩
/-- Ranges that came in. -/
theorem cells_rgs {fuel : Nat} {v : Value} {y : DataW H × List MemPlace} (h : DataW.trod enc Tryd.prog W 0 (fun _ => true) true fuel 24 [v] = some y) : ∃ l : List (Nat × Nat), RgV W v l ∧ ∀ x ∈ l, x.1 ≤ 18446744073709551615 := by
  rcases open_slice_pairs Tryd.underlying24 Tryd.underlying44 (by kernel_rfl) rfl rfl (by kernel_rfl) (by kernel_rfl) h with ⟨hcs, _⟩ | ⟨a, len, cap, m, n, V0, V1, D0, D1, P0, P1, hcs, _, hl, hm, hmm, _, hx⟩
  · simp at hcs
    subst hcs
    exact ⟨[], Sl.nil _ _, by simp⟩
  · simp at hcs
    subst hcs
    have hmm' : m = cap := by simpa using hmm
    have each : ∀ i, i < len → ∃ s : Nat × Nat, (W.cell? (a.add (i * 2)) = some (.int .u64 (s.1 : Int)) ∧ W.cell? (a.add (i * 2 + 1)) = some (.int .u64 (s.2 : Int))) ∧ s.1 ≤ 18446744073709551615 := by
      intro i hi
      obtain ⟨c0, c1, t0, t1⟩ := hx i (by omega)
      obtain ⟨n0, e0, _, w0⟩ := DataW.trod_int Tryd.underlying22 t0
      obtain ⟨n1, e1, _, w1⟩ := DataW.trod_int Tryd.underlying22 t1
      have b0 := bounds_u64 w0
      obtain ⟨m0, rfl⟩ := Int.eq_ofNat_of_zero_le b0.1
      obtain ⟨m1, rfl⟩ := Int.eq_ofNat_of_zero_le (bounds_u64 w1).1
      refine ⟨(m0, m1), ⟨?_, ?_⟩, by simp only; omega⟩
      · rw [c0]; simpa using e0
      · rw [c1]; simpa using e1
    obtain ⟨l, hll, hq⟩ := list_of len _ each
    refine ⟨l, ?_, fun x hx => ?_⟩
    · have := sl_pairs (W := W) (a := a) (fun s : Nat × Nat => .int .u64 (s.1 : Int)) (fun s => .int .u64 (s.2 : Int)) l hll hl hm (fun i s h => (hq i s h).1)
      unfold RgV
      rw [hll]
      exact this
    · obtain ⟨i, hi⟩ := List.getElem?_of_mem hx
      exact (hq i x hi).2
/-- What is known of a frame that came in. -/
structure FrIn (W : World) (f : Fr) (vd vr : Value) : Prop where
  d : Byts W vd f.d
  r : RgV W vr f.rs
  t : f.t.length = 16
  k : okKey f.k
  g : RngOk f
theorem FrIn.frv {w : World} {f : Fr} {vd vr : Value} (h : FrIn w f vd vr) (h1 : (f.d.length : Int) ≤ 2000) (h2 : (f.rs.length : Int) ≤ 40) : FrV w f vd vr := ⟨h.d, h.r, h.t, by omega, by omega⟩
theorem FrIn.kept {w w' : World} {f : Fr} {vd vr : Value} (h : FrIn w f vd vr) (hM : Mod (fun _ => False) w w') : FrIn w' f vd vr := ⟨byts_kept h.d hM, h.r.kept hM, h.t, h.k, h.g⟩
theorem cells_fr {fuel : Nat} {cs : List Value} {y : DataW H × List MemPlace} (hl : cs.length = 24) (hf : DataW.trod enc Tryd.prog W 0 (fun _ => true) true fuel 27 cs = some y) : ∃ (f : Fr) (vd vr : Value), cs = frL f vd vr ∧ FrIn W f vd vr := by
  obtain ⟨c0, c1, c2, c3, c4, c5, c6, c7, r, rfl, hr⟩ := eight hl
  obtain ⟨xs, n, _, hx, _, hlen, hg⟩ := DataW.trod_struct Tryd.underlying27 hf
  have zi : Program.cellsOf Tryd.prog 3 = 1 := by kernel_rfl
  have z8 : Program.cellsOf Tryd.prog 22 = 1 := by kernel_rfl
  have zb : Program.cellsOf Tryd.prog 4 = 1 := by kernel_rfl
  have zs : Program.cellsOf Tryd.prog 23 = 1 := by kernel_rfl
  have zr : Program.cellsOf Tryd.prog 24 = 1 := by kernel_rfl
  have zt : Program.cellsOf Tryd.prog 25 = 16 := by kernel_rfl
  have zu : Program.cellsOf Tryd.prog 5 = 1 := by kernel_rfl
  match xs, hlen with
  | [y0, y1, y2, y3, y4, y5, y6, y7, y8], _ =>
    have h0 : DataW.trod enc Tryd.prog W 0 (fun _ => true) true n 3 [c0] = some y0 := by simpa [Value.cells, zi] using hg 0 _ rfl
    have h1 : DataW.trod enc Tryd.prog W 0 (fun _ => true) true n 22 [c1] = some y1 := by simpa [Value.cells, z8] using hg 1 _ rfl
    have h2 : DataW.trod enc Tryd.prog W 0 (fun _ => true) true n 22 [c2] = some y2 := by simpa [Value.cells, z8] using hg 2 _ rfl
    have h3 : DataW.trod enc Tryd.prog W 0 (fun _ => true) true n 22 [c3] = some y3 := by simpa [Value.cells, z8] using hg 3 _ rfl
    have h4 : DataW.trod enc Tryd.prog W 0 (fun _ => true) true n 22 [c4] = some y4 := by simpa [Value.cells, z8] using hg 4 _ rfl
    have h5 : DataW.trod enc Tryd.prog W 0 (fun _ => true) true n 4 [c5] = some y5 := by simpa [Value.cells, zb] using hg 5 _ rfl
    have h6 : DataW.trod enc Tryd.prog W 0 (fun _ => true) true n 23 [c6] = some y6 := by simpa [Value.cells, zs] using hg 6 _ rfl
    have h7 : DataW.trod enc Tryd.prog W 0 (fun _ => true) true n 24 [c7] = some y7 := by simpa [Value.cells, zr] using hg 7 _ rfl
    have h8 : DataW.trod enc Tryd.prog W 0 (fun _ => true) true n 25 r = some y8 := by
      have := hg 8 _ rfl
      simp [zt] at this
      rwa [List.take_of_length_le (by omega)] at this
    obtain ⟨n0, e0, _, w0⟩ := DataW.trod_int Tryd.underlying3 h0
    obtain ⟨n1, e1, _, w1⟩ := DataW.trod_int Tryd.underlying22 h1
    obtain ⟨n2, e2, _, w2⟩ := DataW.trod_int Tryd.underlying22 h2
    obtain ⟨n3, e3, _, w3⟩ := DataW.trod_int Tryd.underlying22 h3
    obtain ⟨n4, e4, _, w4⟩ := DataW.trod_int Tryd.underlying22 h4
    obtain ⟨b5, e5, _⟩ := DataW.trod_bool Tryd.underlying4 h5
    obtain ⟨l6, hb6⟩ := cells_byts h6
    obtain ⟨l7, hb7, hg7⟩ := cells_rgs h7
    obtain rfl : c0 = .int .i64 n0 := by simpa using e0
    obtain rfl : c1 = .int .u64 n1 := by simpa using e1
    obtain rfl : c2 = .int .u64 n2 := by simpa using e2
    obtain rfl : c3 = .int .u64 n3 := by simpa using e3
    obtain rfl : c4 = .int .u64 n4 := by simpa using e4
    obtain rfl : c5 = .bool b5 := by simpa using e5
    obtain ⟨m1, rfl⟩ := Int.eq_ofNat_of_zero_le (bounds_u64 w1).1
    obtain ⟨m2, rfl⟩ := Int.eq_ofNat_of_zero_le (bounds_u64 w2).1
    obtain ⟨m3, rfl⟩ := Int.eq_ofNat_of_zero_le (bounds_u64 w3).1
    obtain ⟨m4, rfl⟩ := Int.eq_ofNat_of_zero_le (bounds_u64 w4).1
    obtain ⟨ys, m, _, _, _, hys, hel⟩ := DataW.trod_array Tryd.underlying25 h8
    obtain ⟨t, ht⟩ := bytes_cells r (fun i hi => by
      have hi' : i < 16 := by omega
      have h1 := hel i hi'
      rw [zu, Nat.mul_one, List.getElem?_eq_getElem (by omega)] at h1
      obtain ⟨z, e, _, wz⟩ := DataW.trod_int Tryd.underlying5 h1
      have e2 : r[i]? = some (.int .u8 z) := by
        have := congrArg (fun x => x[0]?) e
        simpa [List.getElem?_take] using this
      exact ⟨z, e2, bounds_u8 wz⟩)
    subst ht
    exact ⟨⟨n0, m1, m2, m3, m4, b5, l6, l7, t⟩, c6, c7, rfl, hb6, hb7, by simpa using hr, w0, hg7⟩
theorem cellsFr : Program.cellsOf Tryd.prog 27 = 24 := by kernel_rfl
/-- A frame that came in. -/
theorem open_fr {v : Value} {d : DataW H} {p : List MemPlace} {base : Nat} (hval : Value.okWide Tryd.prog W .any base 27 v) (h : DataW.Trod enc Tryd.prog W 0 (fun _ => true) true 27 v d p) :
    ∃ (f : Fr) (vd vr : Value), v = frV f vd vr ∧ FrIn W f vd vr := by
  obtain ⟨cs, rfl, hsz⟩ := okWide_struct Tryd.underlying27 hval
  obtain ⟨l⟩ := cs
  have hl : l.length = 24 := hsz.trans cellsFr
  obtain ⟨fuel, hf⟩ := h
  obtain ⟨f, vd, vr, e, hi⟩ := cells_fr hl hf
  refine ⟨f, vd, vr, ?_, hi⟩
  have e' : l = frL f vd vr := by simpa [Value.cells] using e
  rw [e']
  rfl
/-- Frames that came in. -/
def FrsIn (W : World) (v : Value) (l : List (Fr × Value × Value)) : Prop :=
  ∃ a cap, v = .slice a l.length cap ∧ l.length ≤ cap ∧ cap ≤ maxLen ∧ ∀ (i : Nat) (x : Fr × Value × Value), l[i]? = some x → ∃ b off, a = some ⟨b, off, none⟩ ∧ W.rangeAt b (off + i * 24) (frC x.1 x.2.1 x.2.2).toList ∧ FrIn W x.1 x.2.1 x.2.2
theorem open_frs {v : Value} {d : DataW H} {p : List MemPlace} {base : Nat} (hval : Value.okWide Tryd.prog W .any base 33 v) (h : DataW.Trod enc Tryd.prog W 0 (fun _ => true) true 33 v d p) :
    ∃ l : List (Fr × Value × Value), FrsIn W v l := by
  obtain ⟨a0, len, cap, rfl⟩ := okWide_slice Tryd.underlying33 hval
  obtain ⟨fuel, hf⟩ := h
  rcases open_slice Tryd.underlying33 hf with ⟨hcs, _⟩ | ⟨a, len', cap', m, n, D, Pl, hcs, _, hl, hm, hmm, _, hx⟩
  · simp [Value.cells] at hcs
    obtain ⟨rfl, rfl, rfl⟩ := hcs
    exact ⟨[], none, 0, rfl, Nat.le_refl _, by simp [maxLen], fun i x h => by simp at h⟩
  · simp [Value.cells] at hcs
    obtain ⟨rfl, rfl, rfl⟩ := hcs
    have hmm' : m = cap := by simpa using hmm
    have each : ∀ i, i < len → ∃ x : Fr × Value × Value, (∀ j u, (frL x.1 x.2.1 x.2.2)[j]? = some u → W.cell? ((a.add (i * 24)).add j) = some u) ∧ FrIn W x.1 x.2.1 x.2.2 := by
      intro i hi
      obtain ⟨cs', h1, h2⟩ := hx i (by omega)
      rw [cellsFr] at h1
      obtain ⟨_, hlen, hcell⟩ := World.cells?_some h1
      obtain ⟨f, vd, vr, rfl, hin⟩ := cells_fr hlen h2
      refine ⟨(f, vd, vr), fun j u hu => ?_, hin⟩
      obtain ⟨hj, e⟩ := List.getElem?_eq_some_iff.1 hu
      have hj' : j < (frL f vd vr).length := hj
      have := hcell j (by omega)
      rw [this]
      exact hu
    obtain ⟨l, hll, hq⟩ := list_of len _ each
    refine ⟨l, some a, cap, by rw [hll], by omega, hm, fun i x hi => ?_⟩
    have h0 : 0 < l.length := by have := (List.getElem?_eq_some_iff.1 hi).1; omega
    have hsp : a.spot = none := by
      have := (hq 0 l[0] (List.getElem?_eq_getElem h0)).1 0 _ rfl
      rw [Nat.zero_mul] at this
      cases hs : a.spot with
      | none => rfl
      | some q =>
        exfalso
        have e : (a.add 0).add 0 = a := by simp [Addr.add]
        rw [e] at this
        unfold World.cell? at this
        rw [hs] at this
        split at this <;> simp at this
    obtain ⟨hc, hin⟩ := hq i x hi
    refine ⟨a.block, a.off, by obtain ⟨ab, ao, sp⟩ := a; simp only at hsp; subst hsp; rfl, fun j u hu => ?_, hin⟩
    have := hc j u (by simpa [frC] using hu)
    rw [add_add' a hsp] at this
    exact this
end
end Go.Proofs.YteegonadodmeeaaDoor
