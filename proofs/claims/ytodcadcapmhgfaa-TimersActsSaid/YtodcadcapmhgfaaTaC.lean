/- The plain law of timers: setting, cancelling, dropping, what is due, over the list in order. No program in sight. -/
import Derived.Test.YtodcadcapmhgfaaTaB
namespace Go.Proofs.Ytodcadcapmhgfaa

def neverN : Nat := 18446744073709551615
def isK (c k : Int) (t : Tm) : Bool := decide (t.c = c) && decide (t.k = k)
theorem isK_iff {c k : Int} {t : Tm} : isK c k t = true ↔ keyT t = (c, k) := by simp [isK, keyT]
def UniqK (L : List Tm) : Prop := ∀ a ∈ L, ∀ b ∈ L, keyT a = keyT b → a = b
def atN (c k : Int) (L : List Tm) : Nat := match L.find? (isK c k) with
  | some t => t.t
  | none => neverN
def hasK (c k : Int) (L : List Tm) : Bool := L.any (isK c k)
theorem delT_mem {c k : Int} {L : List Tm} {a : Tm} : a ∈ delT c k L ↔ a ∈ L ∧ keyT a ≠ (c, k) := by
  unfold delT
  rw [List.mem_filter]
  constructor
  · rintro ⟨h1, h2⟩
    refine ⟨h1, fun e => ?_⟩
    have : isK c k a = true := isK_iff.2 e
    unfold isK at this
    rw [this] at h2
    cases h2
  · rintro ⟨h1, h2⟩
    refine ⟨h1, ?_⟩
    have : isK c k a = false := by
      cases h : isK c k a with
      | false => rfl
      | true => exact absurd (isK_iff.1 h) h2
    unfold isK at this
    rw [this]
    rfl
theorem delT_none {c k : Int} : ∀ {L : List Tm}, (∀ a ∈ L, keyT a ≠ (c, k)) → delT c k L = L
  | [], _ => rfl
  | a :: l, h => by
    have h1 := h a (by simp)
    have : (!(decide (a.c = c) && decide (a.k = k))) = true := by
      have : isK c k a = false := by
        cases h2 : isK c k a with
        | false => rfl
        | true => exact absurd (isK_iff.1 h2) h1
      unfold isK at this
      rw [this]
      rfl
    unfold delT
    rw [List.filter_cons, if_pos this]
    congr 1
    exact delT_none (fun b hb => h b (by simp [hb]))
theorem del_perm : ∀ {L : List Tm} {a : Tm}, SortedT L → UniqK L → a ∈ L → (a :: delT a.c a.k L).Perm L
  | [], a, _, _, h => by simp at h
  | x :: l, a, hs, hu, h => by
    have hul : UniqK l := fun p hp q hq e => hu p (by simp [hp]) q (by simp [hq]) e
    by_cases hx : x = a
    · subst hx
      have e : delT x.c x.k (x :: l) = l := by
        unfold delT
        rw [List.filter_cons, if_neg (by simp)]
        exact delT_none (L := l) (c := x.c) (k := x.k) (fun b hb e => by
          have e2 := hu b (by simp [hb]) x (by simp) e
          subst e2
          have := hs.1 b hb
          rw [ahd_irrefl] at this
          cases this)
      rw [e]
    · have ha : a ∈ l := by
        rcases List.mem_cons.1 h with e | h
        · exact absurd e.symm hx
        · exact h
      have hk : keyT x ≠ (a.c, a.k) := fun e => hx (hu x (by simp) a h e)
      have e : delT a.c a.k (x :: l) = x :: delT a.c a.k l := by
        have hm : isK a.c a.k x = false := by
          cases h2 : isK a.c a.k x with
          | false => rfl
          | true => exact absurd (isK_iff.1 h2) hk
        unfold isK at hm
        unfold delT
        rw [List.filter_cons, hm]
        rfl
      rw [e]
      exact (List.Perm.swap x a _).trans ((del_perm hs.2 hul ha).cons x)
theorem set_perm {h : List Tm} {i : Nat} {a : Tm} (t : Tm) (ha : h[i]? = some a) : (a :: h.set i t).Perm (t :: h) := by
  obtain ⟨hi, ea⟩ := List.getElem?_eq_some_iff.1 ha
  rw [List.perm_iff_count]
  intro x
  rw [List.count_cons, List.count_cons, List.count_set hi, ea]
  have p1 : (if a == x then 1 else 0) ≤ h.count x := by
    split
    · rename_i e
      have e : a = x := by simpa using e
      subst e
      exact List.count_pos_iff.2 (List.mem_of_getElem? ha)
    · omega
  generalize h.count x = n at *
  generalize (if a == x then 1 else 0 : Nat) = u at *
  generalize (if t == x then 1 else 0 : Nat) = v at *
  omega
theorem find_mem {c k : Int} {L : List Tm} {a : Tm} (hu : UniqK L) (ha : a ∈ L) (hk : keyT a = (c, k)) : L.find? (isK c k) = some a := by
  cases hf : L.find? (isK c k) with
  | none =>
    have := List.find?_eq_none.1 hf a ha
    exact absurd (isK_iff.2 hk) this
  | some b =>
    have hb := List.mem_of_find?_eq_some hf
    have hkb := isK_iff.1 (List.find?_some hf)
    rw [hu b hb a ha (hkb.trans hk.symm)]
theorem at_mem {c k : Int} {L : List Tm} {a : Tm} (hu : UniqK L) (ha : a ∈ L) (hk : keyT a = (c, k)) : atN c k L = a.t := by
  unfold atN
  rw [find_mem hu ha hk]
theorem at_none {c k : Int} {L : List Tm} (h : ∀ a ∈ L, keyT a ≠ (c, k)) : atN c k L = neverN := by
  unfold atN
  rw [List.find?_eq_none.2 (fun a ha e => h a ha (isK_iff.1 e))]
/-- A queue, told by its list in order. -/
structure QL (L : List Tm) : Prop where
  s : SortedT L
  u : UniqK L
  n : L.length ≤ 200
  v : ∀ a ∈ L, a.t < neverN
theorem QL.nil : QL [] := ⟨trivial, fun a ha => by simp at ha, by simp, fun a ha => by simp at ha⟩
theorem QL.del {L : List Tm} (h : QL L) (c k : Int) : QL (delT c k L) :=
  ⟨SortedT.filter h.s, fun a ha b hb e => h.u a (delT_mem.1 ha).1 b (delT_mem.1 hb).1 e, Nat.le_trans (List.length_filter_le _ _) h.n, fun a ha => h.v a (delT_mem.1 ha).1⟩
theorem QL.ins {L : List Tm} {t : Tm} (h : QL L) (hk : ∀ a ∈ L, keyT a ≠ keyT t) (hn : L.length + 1 ≤ 200) (hv : t.t < neverN) : QL (insT t L) := by
  have hp := insT_perm t L
  refine ⟨insT_sorted h.s (fun a ha e => hk a ha (by rw [e])), fun a ha b hb e => ?_, by rw [hp.length_eq]; simpa using hn, fun a ha => ?_⟩
  · have ha2 := hp.mem_iff.1 ha
    have hb2 := hp.mem_iff.1 hb
    clear ha hb
    rcases List.mem_cons.1 ha2 with e1 | ha3
    · rcases List.mem_cons.1 hb2 with e2 | hb3
      · rw [e1, e2]
      · exact absurd (by rw [← e, e1]) (hk b hb3)
    · rcases List.mem_cons.1 hb2 with e2 | hb3
      · exact absurd (by rw [e, e2]) (hk a ha3)
      · exact h.u a ha3 b hb3 e
  · rcases List.mem_cons.1 (hp.mem_iff.1 ha) with rfl | ha
    · exact hv
    · exact h.v a ha
def setT (t : Tm) (L : List Tm) : Bool × List Tm :=
  if t.t = neverN then (true, delT t.c t.k L)
  else if hasK t.c t.k L = false ∧ L.length = 200 then (false, L)
  else (true, insT t (delT t.c t.k L))
def cancelT (c k : Int) (L : List Tm) : Bool × List Tm := (hasK c k L, delT c k L)
def dropL (c : Int) (L : List Tm) : List Tm := L.filter fun t => !decide (t.c = c)
def dueT (now : Nat) : List Tm → Option Tm × List Tm
  | [] => (none, [])
  | a :: l => if now < a.t then (none, a :: l) else (some a, l)
def nextN : List Tm → Nat
  | [] => neverN
  | a :: _ => a.t
theorem has_iff {c k : Int} {L : List Tm} : hasK c k L = true ↔ ∃ a ∈ L, keyT a = (c, k) := by
  unfold hasK
  rw [List.any_eq_true]
  constructor
  · rintro ⟨a, h1, h2⟩; exact ⟨a, h1, isK_iff.1 h2⟩
  · rintro ⟨a, h1, h2⟩; exact ⟨a, h1, isK_iff.2 h2⟩
theorem has_no {c k : Int} {L : List Tm} : hasK c k L = false ↔ ∀ a ∈ L, keyT a ≠ (c, k) := by
  constructor
  · intro h a ha e
    rw [has_iff.2 ⟨a, ha, e⟩] at h
    cases h
  · intro h
    cases hh : hasK c k L with
    | false => rfl
    | true =>
      obtain ⟨a, ha, e⟩ := has_iff.1 hh
      exact absurd e (h a ha)
theorem del_len {c k : Int} {L : List Tm} (h : QL L) (hh : hasK c k L = true) : (delT c k L).length + 1 = L.length := by
  obtain ⟨a, ha, e⟩ := has_iff.1 hh
  have hp := del_perm h.s h.u ha
  have hc : a.c = c ∧ a.k = k := by simpa [keyT] using e
  rw [hc.1, hc.2] at hp
  have := hp.length_eq
  simpa using this
theorem QL.set {L : List Tm} (h : QL L) (t : Tm) (ht : t.t ≤ neverN) : QL (setT t L).2 := by
  unfold setT
  split
  · exact h.del _ _
  · rename_i hn
    split
    · exact h
    · rename_i hf
      refine (h.del t.c t.k).ins (fun a ha => (delT_mem.1 ha).2) ?_ (by omega)
      cases hh : hasK t.c t.k L with
      | true => have := del_len h hh; have := h.n; omega
      | false =>
        have : ¬ L.length = 200 := fun e => hf ⟨hh, e⟩
        rw [delT_none (has_no.1 hh)]
        have := h.n
        omega
theorem QL.drop {L : List Tm} (h : QL L) (c : Int) : QL (dropL c L) :=
  ⟨SortedT.filter h.s, fun a ha b hb e => h.u a (List.mem_filter.1 ha).1 b (List.mem_filter.1 hb).1 e, Nat.le_trans (List.length_filter_le _ _) h.n, fun a ha => h.v a (List.mem_filter.1 ha).1⟩
theorem QL.tail {a : Tm} {L : List Tm} (h : QL (a :: L)) : QL L :=
  ⟨h.s.2, fun p hp q hq e => h.u p (by simp [hp]) q (by simp [hq]) e, by have := h.n; simp at this; omega, fun p hp => h.v p (by simp [hp])⟩
end Go.Proofs.Ytodcadcapmhgfaa
