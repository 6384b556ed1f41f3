/- The plain law of timers: which comes ahead, a heap of them, how a timer rises and sinks. No program in sight. -/
import Derived.Test.YtodcadcapmhgfaaKit
namespace Go.Proofs.Ytodcadcapmhgfaa

/-- A timer. -/
structure Tm where
  t : Nat
  c : Int
  k : Int
deriving DecidableEq
def ahd (a b : Tm) : Bool := decide (a.t < b.t) || (decide (a.t = b.t) && (decide (a.c < b.c) || (decide (a.c = b.c) && decide (a.k < b.k))))
theorem ahd_iff {a b : Tm} : ahd a b = true ↔ a.t < b.t ∨ (a.t = b.t ∧ (a.c < b.c ∨ (a.c = b.c ∧ a.k < b.k))) := by
  simp [ahd]
theorem ahd_irrefl (a : Tm) : ahd a a = false := by
  cases h : ahd a a with
  | false => rfl
  | true => rw [ahd_iff] at h; omega
theorem ahd_asymm {a b : Tm} (h : ahd a b = true) : ahd b a = false := by
  cases h2 : ahd b a with
  | false => rfl
  | true => rw [ahd_iff] at h h2; omega
theorem ahd_trans {a b c : Tm} (h : ahd a b = true) (h2 : ahd b c = true) : ahd a c = true := by
  rw [ahd_iff] at h h2 ⊢; omega
/-- 'Not ahead' goes on, too. -/
theorem nah_trans {a b c : Tm} (h : ahd a b = false) (h2 : ahd b c = false) : ahd a c = false := by
  cases h3 : ahd a c with
  | false => rfl
  | true =>
    have n1 : ¬ ahd a b = true := by rw [h]; decide
    have n2 : ¬ ahd b c = true := by rw [h2]; decide
    rw [ahd_iff] at n1 n2 h3
    omega
theorem nah_both {a b : Tm} (h : ahd a b = false) (h2 : ahd b a = false) : a = b := by
  have n1 : ¬ ahd a b = true := by rw [h]; decide
  have n2 : ¬ ahd b a = true := by rw [h2]; decide
  rw [ahd_iff] at n1 n2
  obtain ⟨t, c, k⟩ := a
  obtain ⟨t', c', k'⟩ := b
  simp only at n1 n2
  obtain rfl : t = t' := by omega
  obtain rfl : c = c' := by omega
  obtain rfl : k = k' := by omega
  rfl
/-- No timer is ahead of the one above it, but maybe the one at 'i', or what stands right below it. -/
def HeapEx (h : List Tm) (i : Nat) : Prop :=
  (∀ j a b, 0 < j → j ≠ i → (j - 1) / 2 ≠ i → h[j]? = some a → h[(j - 1) / 2]? = some b → ahd a b = false) ∧
  (∀ j a b, 0 < j → (j - 1) / 2 = i → 0 < i → h[j]? = some a → h[(i - 1) / 2]? = some b → ahd a b = false)
def Heap (h : List Tm) : Prop := ∀ j a b, 0 < j → h[j]? = some a → h[(j - 1) / 2]? = some b → ahd a b = false
theorem Heap.ex {h : List Tm} (hh : Heap h) (i : Nat) : HeapEx h i := by
  refine ⟨fun j a b h0 _ _ ha hb => hh j a b h0 ha hb, fun j a b h0 hp hi ha hb => ?_⟩
  have hl : i < h.length := by have := (List.getElem?_eq_some_iff.1 ha).1; omega
  have hx : h[i]? = some h[i] := List.getElem?_eq_getElem hl
  exact nah_trans (hh j a _ h0 ha (by rw [hp]; exact hx)) (hh i _ b hi hx hb)
/-- One more behind, at any place: whatever it is. -/
theorem HeapEx.set {h : List Tm} {i : Nat} (hh : HeapEx h i) (x : Tm) : HeapEx (h.set i x) i := by
  obtain ⟨h1, h2⟩ := hh
  refine ⟨fun j a b h0 hj hp ha hb => ?_, fun j a b h0 hp hi ha hb => ?_⟩
  · rw [List.getElem?_set_ne (by omega)] at ha hb
    exact h1 j a b h0 hj hp ha hb
  · rw [List.getElem?_set_ne (by omega)] at ha hb
    exact h2 j a b h0 hp hi ha hb
def swp (h : List Tm) (i k : Nat) (a b : Tm) : List Tm := (h.set i b).set k a
theorem swp_at {h : List Tm} {i k : Nat} {a b : Tm} (hi : i < h.length) (hk : k < h.length) (hne : i ≠ k) (j : Nat) : (swp h i k a b)[j]? = if j = k then some a else if j = i then some b else h[j]? := by
  unfold swp
  by_cases h1 : j = k
  · subst h1
    rw [if_pos rfl, List.getElem?_set_self (by simpa using hk)]
  · rw [if_neg h1, List.getElem?_set_ne (by omega)]
    by_cases h2 : j = i
    · subst h2
      rw [if_pos rfl, List.getElem?_set_self hi]
    · rw [if_neg h2, List.getElem?_set_ne (by omega)]
/-- A timer rises by one. -/
theorem HeapEx.up {h : List Tm} {i : Nat} {x y : Tm} (hh : HeapEx h i) (hi : 0 < i) (hx : h[i]? = some x) (hy : h[(i - 1) / 2]? = some y) : HeapEx (swp h i ((i - 1) / 2) x y) ((i - 1) / 2) := by
  obtain ⟨h1, h2⟩ := hh
  have li := (List.getElem?_eq_some_iff.1 hx).1
  have lp := (List.getElem?_eq_some_iff.1 hy).1
  have hne : i ≠ (i - 1) / 2 := by omega
  obtain ⟨p, hp⟩ : ∃ p, p = (i - 1) / 2 := ⟨_, rfl⟩
  rw [← hp] at hy lp hne ⊢
  refine ⟨fun j a b h0 hj hpj ha hb => ?_, fun j a b h0 hpj hp0 ha hb => ?_⟩
  · rw [swp_at li lp hne] at ha hb
    rw [if_neg hj] at ha
    rw [if_neg hpj] at hb
    by_cases hji : j = i
    · exact absurd (by rw [hji, hp]) hpj
    · rw [if_neg hji] at ha
      by_cases hb2 : (j - 1) / 2 = i
      · rw [if_pos hb2] at hb
        cases hb
        exact h2 j a y h0 hb2 hi ha (by rw [← hp]; exact hy)
      · rw [if_neg hb2] at hb
        exact h1 j a b h0 hji hb2 ha hb
  · rw [swp_at li lp hne] at ha hb
    rw [if_neg (show j ≠ p by omega)] at ha
    rw [if_neg (show (p - 1) / 2 ≠ p by omega), if_neg (show (p - 1) / 2 ≠ i by omega)] at hb
    have hpy : ahd y b = false := h1 p y b hp0 (by omega) (by omega) hy hb
    by_cases hji : j = i
    · rw [if_pos hji] at ha
      cases ha
      exact hpy
    · rw [if_neg hji] at ha
      exact nah_trans (h1 j a y h0 hji (by omega) ha (by rw [hpj]; exact hy)) hpy
/-- Risen: it isn't ahead of the one above it. -/
def HeapDn (h : List Tm) (i : Nat) : Prop := HeapEx h i ∧ ∀ a b, 0 < i → h[i]? = some a → h[(i - 1) / 2]? = some b → ahd a b = false
theorem HeapDn.done {h : List Tm} {i : Nat} (hh : HeapDn h i) (hk : h.length ≤ 2 * i + 1) : Heap h := by
  intro j a b h0 ha hb
  have lj := (List.getElem?_eq_some_iff.1 ha).1
  by_cases hji : j = i
  · subst hji
    exact hh.2 a b h0 ha hb
  · exact hh.1.1 j a b h0 hji (by omega) ha hb
theorem HeapDn.stay {h : List Tm} {i : Nat} {x z : Tm} (hh : HeapDn h i) (hx : h[i]? = some x) (hsib : ∀ j a, 0 < j → (j - 1) / 2 = i → h[j]? = some a → ahd a z = false) (hn : ahd z x = false) : Heap h := by
  intro j a b h0 ha hb
  by_cases hji : j = i
  · subst hji
    exact hh.2 a b h0 ha hb
  · by_cases hp : (j - 1) / 2 = i
    · rw [hp, hx] at hb
      cases hb
      exact nah_trans (hsib j a h0 hp ha) hn
    · exact hh.1.1 j a b h0 hji hp ha hb
/-- A timer sinks by one. -/
theorem HeapDn.down {h : List Tm} {i k : Nat} {x z : Tm} (hh : HeapDn h i) (hx : h[i]? = some x) (hz : h[k]? = some z) (hk : 0 < k ∧ (k - 1) / 2 = i) (hsib : ∀ j a, 0 < j → (j - 1) / 2 = i → h[j]? = some a → ahd a z = false) (hn : ahd z x = true) : HeapDn (swp h i k x z) k := by
  obtain ⟨⟨h1, h2⟩, h3⟩ := hh
  have li := (List.getElem?_eq_some_iff.1 hx).1
  have lk := (List.getElem?_eq_some_iff.1 hz).1
  have hne : i ≠ k := by omega
  refine ⟨⟨fun j a b h0 hj hpj ha hb => ?_, fun j a b h0 hpj hk0 ha hb => ?_⟩, fun a b hk0 ha hb => ?_⟩
  · rw [swp_at li lk hne] at ha hb
    rw [if_neg hj] at ha
    rw [if_neg hpj] at hb
    by_cases hji : j = i
    · rw [if_pos hji] at ha
      cases ha
      rw [hji] at hb h0
      rw [if_neg (by omega)] at hb
      exact h2 k z b hk.1 hk.2 h0 hz hb
    · rw [if_neg hji] at ha
      by_cases hp : (j - 1) / 2 = i
      · rw [if_pos hp] at hb
        cases hb
        exact hsib j a h0 hp ha
      · rw [if_neg hp] at hb
        exact h1 j a b h0 hji hp ha hb
  · rw [swp_at li lk hne] at ha hb
    rw [hk.2] at hb
    rw [if_neg (show j ≠ k by omega), if_neg (show j ≠ i by omega)] at ha
    rw [if_neg hne, if_pos rfl] at hb
    cases hb
    exact h1 j a z h0 (by omega) (by omega) ha (by rw [hpj]; exact hz)
  · rw [swp_at li lk hne] at ha hb
    rw [hk.2] at hb
    rw [if_pos rfl] at ha
    rw [if_neg hne, if_pos rfl] at hb
    cases ha
    cases hb
    exact ahd_asymm hn
/-- The first of a heap is ahead of none behind it. -/
theorem Heap.top {h : List Tm} (hh : Heap h) {x : Tm} (hx : h[0]? = some x) : ∀ (j : Nat) (a : Tm), h[j]? = some a → ahd a x = false := by
  intro j
  induction j using Nat.strongRecOn with
  | ind j ih =>
    intro a ha
    by_cases h0 : j = 0
    · subst h0
      rw [hx] at ha
      cases ha
      exact ahd_irrefl _
    · have lj := (List.getElem?_eq_some_iff.1 ha).1
      have hl : (j - 1) / 2 < h.length := by omega
      have hb : h[(j - 1) / 2]? = some h[(j - 1) / 2] := List.getElem?_eq_getElem hl
      exact nah_trans (hh j a _ (by omega) ha hb) (ih _ (by omega) _ hb)
end Go.Proofs.Ytodcadcapmhgfaa
