/- The plain law of timers: what was set last counts; what is due comes in order. No program in sight. -/
import Derived.Test.YtodcadcapmhgfaaTaC
namespace Go.Proofs.Ytodcadcapmhgfaa

theorem set_mem {t : Tm} {L : List Tm} {a : Tm} (hk : keyT a ≠ keyT t) : a ∈ (setT t L).2 ↔ a ∈ L := by
  unfold setT
  split
  · exact ⟨fun h => (delT_mem.1 h).1, fun h => delT_mem.2 ⟨h, hk⟩⟩
  · split
    · exact Iff.rfl
    · show a ∈ insT t (delT t.c t.k L) ↔ a ∈ L
      rw [(insT_perm t _).mem_iff]
      constructor
      · intro h
        rcases List.mem_cons.1 h with e | h
        · exact absurd (by rw [e]) hk
        · exact (delT_mem.1 h).1
      · intro h
        exact List.mem_cons.2 (.inr (delT_mem.2 ⟨h, hk⟩))
theorem at_eq {c k : Int} {L M : List Tm} (hl : UniqK L) (hm : UniqK M) (h : ∀ a, keyT a = (c, k) → (a ∈ M ↔ a ∈ L)) : atN c k M = atN c k L := by
  by_cases hx : ∃ a ∈ L, keyT a = (c, k)
  · obtain ⟨a, ha, e⟩ := hx
    rw [at_mem hl ha e, at_mem hm ((h a e).2 ha) e]
  · have n1 : ∀ a ∈ L, keyT a ≠ (c, k) := fun a ha e => hx ⟨a, ha, e⟩
    rw [at_none n1, at_none (fun a ha e => n1 a ((h a e).1 ha) e)]
theorem at_set_other {t : Tm} {L : List Tm} {c k : Int} (h : QL L) (ht : t.t ≤ neverN) (hk : keyT t ≠ (c, k)) : atN c k (setT t L).2 = atN c k L :=
  at_eq h.u (h.set t ht).u (fun a e => set_mem (by rw [e]; exact fun e2 => hk e2.symm))
theorem at_set_same {t : Tm} {L : List Tm} (h : QL L) (ht : t.t ≤ neverN) (hok : (setT t L).1 = true) : atN t.c t.k (setT t L).2 = t.t := by
  have hq := h.set t ht
  by_cases hn : t.t = neverN
  · have e : setT t L = (true, delT t.c t.k L) := by unfold setT; rw [if_pos hn]
    rw [e, hn]
    exact at_none (fun a ha => (delT_mem.1 ha).2)
  · by_cases hf : hasK t.c t.k L = false ∧ L.length = 200
    · have e : setT t L = (false, L) := by unfold setT; rw [if_neg hn, if_pos hf]
      rw [e] at hok
      cases hok
    · have e : setT t L = (true, insT t (delT t.c t.k L)) := by unfold setT; rw [if_neg hn, if_neg hf]
      rw [e] at hq ⊢
      exact at_mem hq.u ((insT_perm t _).mem_iff.2 (by simp)) rfl
theorem set_len (t : Tm) (L : List Tm) : (setT t L).2.length ≤ L.length + 1 := by
  have hd : (delT t.c t.k L).length ≤ L.length := List.length_filter_le _ _
  unfold setT
  split
  · exact Nat.le_succ_of_le hd
  · split
    · exact Nat.le_succ _
    · show (insT t (delT t.c t.k L)).length ≤ _
      rw [(insT_perm t _).length_eq, List.length_cons]
      omega
theorem set_ok {t : Tm} {L : List Tm} (h : L.length < 200) : (setT t L).1 = true := by
  unfold setT
  split
  · rfl
  · rw [if_neg (by omega)]
def setAll (l : List Tm) (L : List Tm) : List Tm := l.foldl (fun L t => (setT t L).2) L
theorem setAll_snoc (l : List Tm) (t : Tm) (L : List Tm) : setAll (l ++ [t]) L = (setT t (setAll l L)).2 := by
  unfold setAll
  rw [List.foldl_append]
  rfl
theorem setAll_ok : ∀ (l : List Tm) {L : List Tm}, QL L → (∀ t ∈ l, t.t ≤ neverN) → QL (setAll l L) ∧ (setAll l L).length ≤ L.length + l.length
  | [], L, h, _ => ⟨h, by simp [setAll]⟩
  | t :: l, L, h, hv => by
    have h1 := h.set t (hv t (by simp))
    have h2 := setAll_ok l h1 (fun x hx => hv x (by simp [hx]))
    have h3 := set_len t L
    refine ⟨h2.1, ?_⟩
    have h4 : (setAll (t :: l) L).length ≤ (setT t L).2.length + l.length := h2.2
    rw [List.length_cons]
    omega
/-- The last one that was set for somebody: it counts. -/
def wantN (a : Tm) : Nat → List Tm → Nat
  | n, [] => n
  | n, b :: l => wantN a (if keyT b = keyT a then b.t else n) l
theorem at_setAll : ∀ (l : List Tm) {L : List Tm} (a : Tm), QL L → (∀ t ∈ l, t.t ≤ neverN) → L.length + l.length ≤ 200 → atN a.c a.k (setAll l L) = wantN a (atN a.c a.k L) l
  | [], L, a, _, _, _ => rfl
  | t :: l, L, a, h, hv, hn => by
    have h1 := h.set t (hv t (by simp))
    have h3 := set_len t L
    rw [List.length_cons] at hn
    have ih := at_setAll l a h1 (fun x hx => hv x (by simp [hx])) (by omega)
    show atN a.c a.k (setAll l (setT t L).2) = wantN a (if keyT t = keyT a then t.t else atN a.c a.k L) l
    rw [ih]
    congr 1
    by_cases e : keyT t = keyT a
    · rw [if_pos e]
      have e2 : t.c = a.c ∧ t.k = a.k := by simpa [keyT] using e
      have := at_set_same h (hv t (by simp)) (set_ok (t := t) (by omega))
      rw [e2.1, e2.2] at this
      exact this
    · rw [if_neg e]
      exact at_set_other h (hv t (by simp)) e
theorem at_tail {a : Tm} {L : List Tm} (h : QL (a :: L)) : atN a.c a.k L = neverN :=
  at_none (fun b hb e => by
    have e2 := h.u b (by simp [hb]) a (by simp) e
    subst e2
    have := h.s.1 b hb
    rw [ahd_irrefl] at this
    cases this)
theorem head_le {a b : Tm} {L : List Tm} (h : QL (a :: b :: L)) : a.t ≤ b.t := by
  have := ahd_iff.1 (h.s.1 b (by simp))
  omega
theorem drop_len (c : Int) (L : List Tm) : (dropL c L).length ≤ L.length := List.length_filter_le _ _
end Go.Proofs.Ytodcadcapmhgfaa
