/- Rows of structs that came in, as a law's parameters: in general. -/
import Derived.Test.YtodcadcapmhgfaaLaw
import Derived.Lib.SmallJoins
import Derived.Deep.SlicePairs
namespace Go.Proofs.Ytodcadcapmhgfaa
open Go.Joins Go.ChangeShapes Go.WideShapes Go.RowKit Go.Deep

theorem list_of {α : Type} : ∀ (n : Nat) (Q : Nat → α → Prop), (∀ i, i < n → ∃ x, Q i x) → ∃ l : List α, l.length = n ∧ ∀ i x, l[i]? = some x → Q i x
  | 0, _, _ => ⟨[], rfl, fun i x h => by simp at h⟩
  | n + 1, Q, h => by
    obtain ⟨l, hl, hq⟩ := list_of n Q (fun i hi => h i (by omega))
    obtain ⟨x, hx⟩ := h n (by omega)
    refine ⟨l ++ [x], by simp [hl], fun i y hy => ?_⟩
    by_cases hi : i < l.length
    · rw [List.getElem?_append_left hi] at hy
      exact hq i y hy
    · rw [List.getElem?_append_right (by omega)] at hy
      have h0 : i - l.length = 0 := by
        have := (List.getElem?_eq_some_iff.1 hy).1
        simp at this
        omega
      rw [h0] at hy
      simp at hy
      subst hy
      rw [show i = n by omega]
      exact hx
theorem flat_len {α : Type} {f : α → List Value} {sz : Nat} (hf : ∀ x, (f x).length = sz) : ∀ l : List α, (l.flatMap f).length = l.length * sz
  | [] => by simp
  | x :: l => by rw [List.flatMap_cons, List.length_append, hf, flat_len hf l, List.length_cons, Nat.succ_mul]; omega
theorem flat_inv {α : Type} {f : α → List Value} {sz : Nat} (hf : ∀ x, (f x).length = sz) : ∀ (l : List α) (j : Nat) (u : Value), (l.flatMap f)[j]? = some u → ∃ i x k, l[i]? = some x ∧ (f x)[k]? = some u ∧ j = i * sz + k
  | [], j, u, h => by simp at h
  | x :: l, j, u, h => by
    rw [List.flatMap_cons] at h
    by_cases hj : j < (f x).length
    · rw [List.getElem?_append_left hj] at h
      exact ⟨0, x, j, rfl, h, by omega⟩
    · rw [List.getElem?_append_right (by omega)] at h
      obtain ⟨i, y, k, h1, h2, h3⟩ := flat_inv hf l _ u h
      refine ⟨i + 1, y, k, by simpa using h1, h2, ?_⟩
      have := hf x
      rw [Nat.succ_mul]
      omega
theorem add_plain {a : Addr} (h : a.spot = none) (j : Nat) : a.add j = ⟨a.block, a.off + j, none⟩ := by
  unfold Addr.add
  obtain ⟨ab, ao, sp⟩ := a
  simp only at h
  subst h
  split
  · rename_i h0; subst h0; rfl
  · rfl
theorem add_add' (a : Addr) (h : a.spot = none) (i j : Nat) : (a.add i).add j = ⟨a.block, a.off + i + j, none⟩ := by
  rw [add_plain h, add_plain rfl]
/-- Rows of 'sz' cells each, behind a slice. -/
theorem sl_rows {α : Type} {W : World} {a : Addr} {len cap sz : Nat} (f : α → List Value) (hf : ∀ x, (f x).length = sz) (hz : 0 < sz) (l : List α) (hl : l.length = len) (hc : len ≤ cap) (hm : cap ≤ maxLen)
    (h : ∀ i x, l[i]? = some x → ∀ j u, (f x)[j]? = some u → W.cell? ((a.add (i * sz)).add j) = some u) : Sl W sz (.slice (some a) len cap) len (l.flatMap f) := by
  refine ⟨by rw [flat_len hf, hl], some a, cap, rfl, hc, hm, fun h => by simp at h, fun j u hu => ?_⟩
  obtain ⟨i, x, k, h1, h2, rfl⟩ := flat_inv hf l j u hu
  have h0 : 0 < l.length := by have := (List.getElem?_eq_some_iff.1 h1).1; omega
  have hsp : a.spot = none := by
    obtain ⟨y, hy⟩ : ∃ y, l[0]? = some y := ⟨_, List.getElem?_eq_getElem h0⟩
    obtain ⟨u0, hu0⟩ : ∃ u, (f y)[0]? = some u := ⟨_, List.getElem?_eq_getElem (by rw [hf]; exact hz)⟩
    have := h 0 y hy 0 u0 hu0
    rw [Nat.zero_mul] at this
    cases hs : a.spot with
    | none => rfl
    | some q =>
      exfalso
      have e : (a.add 0).add 0 = a := by simp [Addr.add]
      rw [e] at this
      unfold World.cell? at this
      rw [hs] at this
      split at this <;> simp at this
  have := h i x h1 k u h2
  rw [add_add' a hsp] at this
  exact ⟨a.block, a.off, by obtain ⟨ab, ao, sp⟩ := a; simp only at hsp; subst hsp; rfl, by rw [← Nat.add_assoc]; exact this⟩
/-- A slice of structs of 'sz' cells that came in: each of which reads as an element of which 'ok' holds. -/
theorem open_rows {H : Type} {enc : TypeId × Value → H} {W : World} {α : Type} {T E : TypeId} {sz : Nat} (f : α → List Value) (hf : ∀ x, (f x).length = sz) (hz : 0 < sz) (ok : α → Prop) (hT : Try.prog.underlying T = some (.slice E)) (hE : Program.cellsOf Try.prog E = sz)
    (hel : ∀ (fuel : Nat) (cs : List Value) (y : DataW H × List MemPlace), cs.length = sz → DataW.trod enc Try.prog W 0 (fun _ => true) true fuel E cs = some y → ∃ x, cs = f x ∧ ok x)
    {v : Value} {d : DataW H} {p : List MemPlace} {base : Nat} (hval : Value.okWide Try.prog W .any base T v) (h : DataW.Trod enc Try.prog W 0 (fun _ => true) true T v d p) :
    ∃ l : List α, Sl W sz v l.length (l.flatMap f) ∧ ∀ x ∈ l, ok x := by
  obtain ⟨a0, len, cap, rfl⟩ := okWide_slice hT hval
  obtain ⟨fuel, hfu⟩ := h
  rcases open_slice hT hfu with ⟨hcs, _⟩ | ⟨a, len', cap', m, n, D, Pl, hcs, _, hl, hm, hmm, _, hx⟩
  · simp [Value.cells] at hcs
    obtain ⟨rfl, rfl, rfl⟩ := hcs
    exact ⟨[], Sl.nil _ _, by simp⟩
  · simp [Value.cells] at hcs
    obtain ⟨rfl, rfl, rfl⟩ := hcs
    have hmm' : m = cap := by simpa using hmm
    have each : ∀ i, i < len → ∃ x : α, (∀ j u, (f x)[j]? = some u → W.cell? ((a.add (i * sz)).add j) = some u) ∧ ok x := by
      intro i hi
      obtain ⟨cs', h1, h2⟩ := hx i (by omega)
      rw [hE] at h1
      obtain ⟨_, hlen, hcell⟩ := World.cells?_some h1
      obtain ⟨x, rfl, hin⟩ := hel _ _ _ hlen h2
      refine ⟨x, fun j u hu => ?_, hin⟩
      have hj := (List.getElem?_eq_some_iff.1 hu).1
      have hj' := hf x
      have := hcell j (by omega)
      rw [this]
      exact hu
    obtain ⟨l, hll, hq⟩ := list_of len _ each
    refine ⟨l, ?_, fun x hx => ?_⟩
    · rw [hll]
      exact sl_rows f hf hz l hll hl hm (fun i x hi => (hq i x hi).1)
    · obtain ⟨i, hi⟩ := List.getElem?_of_mem hx
      exact (hq i x hi).2
end Go.Proofs.Ytodcadcapmhgfaa
