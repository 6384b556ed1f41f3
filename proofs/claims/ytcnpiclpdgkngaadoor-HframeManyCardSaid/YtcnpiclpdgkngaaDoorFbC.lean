/- Settings, fields and frames that came in, as a law's parameters. -/
import Derived.Test.YtcnpiclpdgkngaaDoorFaP
import Derived.Test.YtcnpiclpdgkngaaDoorFaE
import Derived.Test.YtcnpiclpdgkngaaDoorLaw
import Derived.Lib.SmallJoins
import Derived.Deep.SlicePairs
namespace Go.Proofs.YtcnpiclpdgkngaaDoor
open Go.Joins Go.ChangeShapes Go.WideShapes Go.RowKit Go.Deep

theorem list_of {α : Type} : ∀ (n : Nat) (Q : Nat → α → Prop), (∀ i, i < n → ∃ x, Q i x) → ∃ l : List α, l.length = n ∧ ∀ i x, l[i]? = some x → Q i x
  | 0, _, _ => ⟨[], rfl, fun i x h => by simp at h⟩
  | n + 1, Q, h => by
    obtain ⟨l, hl, hq⟩ := list_of n Q (fun i hi => h i (by omega))
    obtain ⟨x, hx⟩ := h n (by omega)
    refine ⟨l ++ [x], by simp [hl], fun i y hy => ?_⟩
    by_cases hi : i < l.length
    · rw [List.getElem?_append_left hi] at hy
      exact hq i y hy
    · rw [List.getElem?_append_right (by omega)] at hy
      have h0 : i - l.length = 0 := by
        have := (List.getElem?_eq_some_iff.1 hy).1
        simp at this
        omega
      rw [h0] at hy
      simp at hy
      subst hy
      rw [show i = n by omega]
      exact hx
theorem pairs_inv {α : Type} (p q : α → Value) : ∀ (l : List α) (j : Nat) (u : Value), (l.flatMap fun s => [p s, q s])[j]? = some u → ∃ i s, l[i]? = some s ∧ (j = i * 2 ∧ u = p s ∨ j = i * 2 + 1 ∧ u = q s)
  | [], j, u, h => by simp at h
  | s :: l, 0, u, h => ⟨0, s, rfl, .inl ⟨rfl, by simpa using h.symm⟩⟩
  | s :: l, 1, u, h => ⟨0, s, rfl, .inr ⟨rfl, by simpa using h.symm⟩⟩
  | s :: l, j + 2, u, h => by
    have h' : (l.flatMap fun s => [p s, q s])[j]? = some u := by simpa using h
    obtain ⟨i, t, ht, hj⟩ := pairs_inv p q l j u h'
    rcases hj with ⟨rfl, rfl⟩ | ⟨rfl, rfl⟩
    · exact ⟨i + 1, t, by simpa using ht, .inl ⟨by omega, rfl⟩⟩
    · exact ⟨i + 1, t, by simpa using ht, .inr ⟨by omega, rfl⟩⟩
theorem spot_none {W : World} {a : Addr} {v : Value} (h : W.cell? (a.add 0) = some v) : a.spot = none := by
  unfold Addr.add at h
  simp only [if_true] at h
  cases hs : a.spot with
  | none => rfl
  | some x =>
    exfalso
    unfold World.cell? at h
    rw [hs] at h
    split at h <;> simp at h
theorem add_plain {a : Addr} (h : a.spot = none) (j : Nat) : a.add j = ⟨a.block, a.off + j, none⟩ := by
  unfold Addr.add
  obtain ⟨ab, ao, sp⟩ := a
  simp only at h
  subst h
  split
  · rename_i h0; subst h0; rfl
  · rfl
/-- Pairs of one cell each, behind a slice. -/
theorem sl_pairs {α : Type} {W : World} {a : Addr} {len cap : Nat} (p q : α → Value) (l : List α) (hl : l.length = len) (hc : len ≤ cap) (hm : cap ≤ maxLen)
    (h : ∀ i s, l[i]? = some s → W.cell? (a.add (i * 2)) = some (p s) ∧ W.cell? (a.add (i * 2 + 1)) = some (q s)) : Sl W 2 (.slice (some a) len cap) len (l.flatMap fun s => [p s, q s]) := by
  refine ⟨?_, some a, cap, rfl, hc, hm, fun h => by simp at h, fun j u hu => ?_⟩
  · rw [← hl]
    clear h hl
    induction l with
    | nil => rfl
    | cons x m ih => rw [List.flatMap_cons, List.length_append, ih, List.length_cons]; simp; omega
  · obtain ⟨i, s, hs, hj⟩ := pairs_inv p q l j u hu
    have h0 : 0 < l.length := by have := (List.getElem?_eq_some_iff.1 hs).1; omega
    have hsp := spot_none (by have := (h 0 l[0] (List.getElem?_eq_getElem h0)).1; simpa using this)
    obtain ⟨e1, e2⟩ := h i s hs
    rw [add_plain hsp] at e1 e2
    refine ⟨a.block, a.off, ?_, ?_⟩
    · obtain ⟨ab, ao, sp⟩ := a; simp only at hsp; subst hsp; rfl
    · rcases hj with ⟨rfl, rfl⟩ | ⟨rfl, rfl⟩
      · exact e1
      · exact e2
section
variable {H : Type} {enc : TypeId × Value → H} {W : World}
/-- Settings that came in. -/
theorem cells_sets {fuel : Nat} {v : Value} {y : DataW H × List MemPlace} (h : DataW.trod enc Tryd.prog W 0 (fun _ => true) true fuel 23 [v] = some y) : ∃ l : List (Nat × Nat), SetV W v l := by
  rcases open_slice_pairs Tryd.underlying23 Tryd.underlying49 (by kernel_rfl) rfl rfl (by kernel_rfl) (by kernel_rfl) h with ⟨hcs, _⟩ | ⟨a, len, cap, m, n, V0, V1, D0, D1, P0, P1, hcs, _, hl, hm, hmm, _, hx⟩
  · simp at hcs
    subst hcs
    exact ⟨[], Sl.nil _ _⟩
  · simp at hcs
    subst hcs
    have hmm' : m = cap := by simpa using hmm
    have each : ∀ i, i < len → ∃ s : Nat × Nat, W.cell? (a.add (i * 2)) = some (.int .u64 (s.1 : Int)) ∧ W.cell? (a.add (i * 2 + 1)) = some (.int .u64 (s.2 : Int)) := by
      intro i hi
      obtain ⟨c0, c1, t0, t1⟩ := hx i (by omega)
      obtain ⟨n0, e0, _, w0⟩ := DataW.trod_int Tryd.underlying22 t0
      obtain ⟨n1, e1, _, w1⟩ := DataW.trod_int Tryd.underlying22 t1
      obtain ⟨m0, rfl⟩ := Int.eq_ofNat_of_zero_le (bounds_u64 w0).1
      obtain ⟨m1, rfl⟩ := Int.eq_ofNat_of_zero_le (bounds_u64 w1).1
      refine ⟨(m0, m1), ?_, ?_⟩
      · rw [c0]; simpa using e0
      · rw [c1]; simpa using e1
    obtain ⟨l, hll, hq⟩ := list_of len _ each
    refine ⟨l, ?_⟩
    have := sl_pairs (W := W) (a := a) (fun s : Nat × Nat => .int .u64 (s.1 : Int)) (fun s => .int .u64 (s.2 : Int)) l hll hl hm hq
    unfold SetV
    rw [hll]
    exact this
theorem open_sets {v : Value} {d : DataW H} {p : List MemPlace} {base : Nat} (hval : Value.okWide Tryd.prog W .any base 23 v) (h : DataW.Trod enc Tryd.prog W 0 (fun _ => true) true 23 v d p) : ∃ l : List (Nat × Nat), SetV W v l := by
  obtain ⟨a0, len, cap, rfl⟩ := okWide_slice Tryd.underlying23 hval
  obtain ⟨fuel, hf⟩ := h
  exact cells_sets (by simpa [Value.cells] using hf)
theorem cells_byts {fuel : Nat} {v : Value} {y : DataW H × List MemPlace} (h : DataW.trod enc Tryd.prog W 0 (fun _ => true) true fuel 24 [v] = some y) : ∃ l : List UInt8, Byts W v l := by
  rcases open_ints Tryd.underlying24 Tryd.underlying5 (by kernel_rfl) h with ⟨hcs, hx⟩ | ⟨a, len, cap, zs, hcs, _, hl, hm, hz, hx, hcell, hwz⟩
  · simp at hcs
    subst hcs
    exact ⟨[], Sl.nil _ _⟩
  · simp at hcs
    subst hcs
    simp at hz
    have hwf : ∀ z ∈ zs, 0 ≤ z ∧ z ≤ 255 := fun z hz => bounds_u8 (hwz z hz)
    have each : ∀ i, i < len → ∃ x : UInt8, W.cell? (a.add i) = some (bv x) := by
      intro i hi
      have hiz : i < zs.length := by omega
      refine ⟨UInt8.ofNat zs[i].toNat, ?_⟩
      rw [hcell i (by omega), bv_of (hwf _ (List.getElem_mem hiz))]
      simp [List.getD, hiz]
    obtain ⟨l, hll, hq⟩ := list_of len _ each
    refine ⟨l, by simp, some a, cap, by rw [hll], by omega, hm, fun h => by simp at h, fun j u hu => ?_⟩
    obtain ⟨x, hx, rfl⟩ := by simpa [List.getElem?_map] using hu
    have h0 : 0 < l.length := by have := (List.getElem?_eq_some_iff.1 hx).1; omega
    have hsp := spot_none (hq 0 l[0] (List.getElem?_eq_getElem h0))
    have e1 := hq j x hx
    rw [add_plain hsp] at e1
    exact ⟨a.block, a.off, by obtain ⟨ab, ao, sp⟩ := a; simp only at hsp; subst hsp; rfl, e1⟩
/-- A frame that came in. -/
theorem open_hf {v : Value} {d : DataW H} {p : List MemPlace} {base : Nat} (hval : Value.okWide Tryd.prog W .any base 26 v) (h : DataW.Trod enc Tryd.prog W 0 (fun _ => true) true 26 v d p) :
    ∃ (f : HF) (vs vd : Value), v = hfA f vs vd ∧ SetV W vs f.st ∧ Byts W vd f.d := by
  obtain ⟨v0, v1, v2, v3, y0, y1, y2, y3, n, rfl, _, _, t0, t1, t2, t3⟩ := open_agg4 Tryd.underlying26 (by kernel_rfl) (by kernel_rfl) hval h
  obtain ⟨n0, e0, _, w0⟩ := DataW.trod_int Tryd.underlying3 t0
  obtain ⟨n1, e1, _, w1⟩ := DataW.trod_int Tryd.underlying22 t1
  obtain ⟨m1, rfl⟩ := Int.eq_ofNat_of_zero_le (bounds_u64 w1).1
  obtain ⟨l, hl⟩ := cells_sets t2
  obtain ⟨b, hb⟩ := cells_byts t3
  obtain rfl : v0 = .int .i64 n0 := by simpa using e0
  obtain rfl : v1 = .int .u64 (m1 : Int) := by simpa using e1
  exact ⟨⟨n0, m1, l, b⟩, v2, v3, rfl, hl, hb⟩
end
end Go.Proofs.YtcnpiclpdgkngaaDoor
