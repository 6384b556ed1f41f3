/- The plain law of timers: what is in a heap, each key once, in order. No program in sight. -/
import Derived.Test.YtodcadcapmhgfaaTaA
namespace Go.Proofs.Ytodcadcapmhgfaa

theorem swp_len (h : List Tm) (i k : Nat) (a b : Tm) : (swp h i k a b).length = h.length := by simp [swp]
theorem swp_perm {h : List Tm} {i k : Nat} {a b : Tm} (ha : h[i]? = some a) (hb : h[k]? = some b) : (swp h i k a b).Perm h := by
  obtain ⟨hi, ea⟩ := List.getElem?_eq_some_iff.1 ha
  obtain ⟨hk, eb⟩ := List.getElem?_eq_some_iff.1 hb
  rw [List.perm_iff_count]
  intro x
  unfold swp
  by_cases hik : i = k
  · subst hik
    have e : a = b := by rw [← ea, ← eb]
    subst e
    rw [List.set_set, ← ea, List.set_getElem_self]
  · rw [List.count_set (by simpa using hk), List.count_set hi, List.getElem_set_ne (by omega), ea, eb]
    have c1 : h[i]? = some a := ha
    have p1 : (if a == x then 1 else 0) ≤ h.count x := by
      split
      · rename_i e
        have e : a = x := by simpa using e
        subst e
        exact List.count_pos_iff.2 (List.mem_of_getElem? ha)
      · omega
    have p2 : (if b == x then 1 else 0) ≤ h.count x := by
      split
      · rename_i e
        have e : b = x := by simpa using e
        subst e
        exact List.count_pos_iff.2 (List.mem_of_getElem? hb)
      · omega
    generalize h.count x = n at *
    generalize (if a == x then 1 else 0 : Nat) = u at *
    generalize (if b == x then 1 else 0 : Nat) = v at *
    omega
/-- The last one goes to place 'i', and the last place away: the rest stays. -/
theorem cut_perm {h : List Tm} {i : Nat} {a b : Tm} (ha : h[i]? = some a) (hb : h[h.length - 1]? = some b) : (a :: (swp h i (h.length - 1) a b).take (h.length - 1)).Perm h := by
  have hl : 0 < h.length := by have := (List.getElem?_eq_some_iff.1 ha).1; omega
  have hp := swp_perm ha hb
  have hla : (swp h i (h.length - 1) a b)[h.length - 1]? = some a := by
    unfold swp
    rw [List.getElem?_set_self (by simp; omega)]
  have e : (swp h i (h.length - 1) a b).take (h.length - 1 + 1) = (swp h i (h.length - 1) a b).take (h.length - 1) ++ [a] := by
    rw [List.take_add_one, hla]
    rfl
  rw [List.take_of_length_le (by rw [swp_len]; omega)] at e
  rw [e] at hp
  exact (List.perm_append_comm.trans hp : ([a] ++ _).Perm h)
/-- Whose a timer is. -/
def keyT (t : Tm) : Int × Int := (t.c, t.k)
def Uniq (h : List Tm) : Prop := ∀ (i j : Nat) (a b : Tm), h[i]? = some a → h[j]? = some b → keyT a = keyT b → i = j
/-- In order, no two alike. -/
def SortedT : List Tm → Prop
  | [] => True
  | a :: l => (∀ b ∈ l, ahd a b = true) ∧ SortedT l
theorem SortedT.eq : ∀ {l m : List Tm}, SortedT l → SortedT m → l.Perm m → l = m
  | [], m, _, _, hp => (List.Perm.nil_eq hp)
  | a :: l, [], _, _, hp => absurd hp.length_eq (by simp)
  | a :: l, b :: m, h1, h2, hp => by
    have e : a = b := by
      have ha : a ∈ b :: m := hp.mem_iff.1 (by simp)
      have hb : b ∈ a :: l := hp.mem_iff.2 (by simp)
      rcases List.mem_cons.1 ha with e | ha
      · exact e
      · rcases List.mem_cons.1 hb with e | hb
        · exact e.symm
        · have x1 := h1.1 b hb
          have x2 := h2.1 a ha
          rw [ahd_asymm x1] at x2
          cases x2
    subst e
    rw [SortedT.eq h1.2 h2.2 (List.Perm.cons_inv hp)]
def insT (t : Tm) : List Tm → List Tm
  | [] => [t]
  | a :: l => if ahd t a = true then t :: a :: l else a :: insT t l
def delT (c k : Int) (l : List Tm) : List Tm := l.filter fun t => !(decide (t.c = c) && decide (t.k = k))
theorem insT_perm (t : Tm) : ∀ l : List Tm, (insT t l).Perm (t :: l)
  | [] => List.Perm.refl _
  | a :: l => by
    unfold insT
    split
    · exact List.Perm.refl _
    · exact ((insT_perm t l).cons a).trans (List.Perm.swap t a l)
theorem insT_sorted {t : Tm} : ∀ {l : List Tm}, SortedT l → (∀ a ∈ l, a ≠ t) → SortedT (insT t l)
  | [], _, _ => ⟨by simp, trivial⟩
  | a :: l, h, hn => by
    unfold insT
    split
    · rename_i ht
      refine ⟨fun b hb => ?_, h⟩
      rcases List.mem_cons.1 hb with rfl | hb
      · exact ht
      · exact ahd_trans ht (h.1 b hb)
    · rename_i ht
      have hta : ahd a t = true := by
        cases h2 : ahd a t with
        | true => rfl
        | false => exact absurd (nah_both h2 (by simpa using ht)) (hn a (by simp))
      refine ⟨fun b hb => ?_, insT_sorted h.2 (fun x hx => hn x (by simp [hx]))⟩
      rcases List.mem_cons.1 ((insT_perm t l).mem_iff.1 hb) with rfl | hb
      · exact hta
      · exact h.1 b hb
theorem SortedT.filter {p : Tm → Bool} : ∀ {l : List Tm}, SortedT l → SortedT (l.filter p)
  | [], _ => trivial
  | a :: l, h => by
    rw [List.filter_cons]
    split
    · exact ⟨fun b hb => h.1 b (List.mem_filter.1 hb).1, SortedT.filter h.2⟩
    · exact SortedT.filter h.2
end Go.Proofs.Ytodcadcapmhgfaa
