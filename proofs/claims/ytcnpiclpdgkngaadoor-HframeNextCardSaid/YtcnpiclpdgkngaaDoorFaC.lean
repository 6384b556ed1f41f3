/- Settings: is a number among them; may they be. -/
import Derived.Test.YtcnpiclpdgkngaaDoorFaB
import Derived.Test.YtcnpiclpdgkngaaDoorPaS
import Derived.Test.YtcnpiclpdgkngaaDoorVarD
namespace Go.Proofs.YtcnpiclpdgkngaaDoor
open Go.RowKit

def setC (s : Nat × Nat) : List Value := [.int .u64 (s.1 : Int), .int .u64 (s.2 : Int)]
/-- Settings in memory. -/
def SetV (w : World) (v : Value) (l : List (Nat × Nat)) : Prop := Sl w 2 v l.length (l.flatMap setC)
theorem setC_one (l : List (Nat × Nat)) : ∀ u ∈ l.flatMap setC, u.oneCell' = true := by
  intro u hu
  obtain ⟨s, _, h⟩ := List.mem_flatMap.1 hu
  simp only [setC, List.mem_cons, List.not_mem_nil, or_false] at h
  rcases h with rfl | rfl <;> rfl
theorem setC_at : ∀ (l : List (Nat × Nat)) (i : Nat) (s : Nat × Nat), l[i]? = some s → (l.flatMap setC)[i * 2]? = some (.int .u64 (s.1 : Int)) ∧ (l.flatMap setC)[i * 2 + 1]? = some (.int .u64 (s.2 : Int))
  | [], i, s, h => by simp at h
  | x :: l, 0, s, h => by simp at h; subst h; exact ⟨rfl, rfl⟩
  | x :: l, i + 1, s, h => by
    have := setC_at l i s (by simpa using h)
    rw [List.flatMap_cons, show (i + 1) * 2 = i * 2 + 2 by omega]
    exact this
theorem set_val {w : World} {v : Value} {l : List (Nat × Nat)} (h : SetV w v l) : ∃ a cap, v = .slice a l.length cap ∧ l.length ≤ cap ∧ cap ≤ maxLen ∧ (a = none → cap = 0) := Sl.val h
theorem set_addr {w : World} {v : Value} {l : List (Nat × Nat)} (h : SetV w v l) (hx : l ≠ []) :
    ∃ b off cap, v = .slice (some ⟨b, off, none⟩) l.length cap ∧ l.length ≤ cap ∧ cap ≤ maxLen ∧ ∀ i s, l[i]? = some s → w.cell? ⟨b, off + i * 2, none⟩ = some (.int .u64 (s.1 : Int)) ∧ w.cell? ⟨b, off + i * 2 + 1, none⟩ = some (.int .u64 (s.2 : Int)) := by
  obtain ⟨b, off, cap, h1, h2, h3, h4⟩ := Sl.addr h (by
    cases l with
    | nil => exact absurd rfl hx
    | cons x l => simp [setC])
  refine ⟨b, off, cap, h1, h2, h3, fun i s hs => ?_⟩
  obtain ⟨e1, e2⟩ := setC_at l i s hs
  exact ⟨h4 _ _ e1, by rw [Nat.add_assoc]; exact h4 _ _ e2⟩
theorem SetV.kept {w w' : World} {v : Value} {l : List (Nat × Nat)} (h : SetV w v l) (hM : Mod (fun _ => False) w w') : SetV w' v l := Sl.kept h hM (fun _ _ h => h)
set_option maxRecDepth 10000 in
theorem seteq_any (w : World) (kb id j : Nat) (y : Value) (b : Bool) (hb : decide (j = id) = b) (hc : w.cell? ⟨kb, 0, none⟩ = some (.int .u64 (id : Int))) :
    Calls Tryd.prog 48 #[.agg #[.int .u64 (j : Int), y], .pointer (some ⟨kb, 0, none⟩)] w fun e w' => e = .returned (.bool b) ∧ Mod (fun _ => False) w w' := by
  have hc' := ((Mod.refl (fun _ => False) w).alloc (.cells #[.int .u64 (j : Int), y] 49)).cellAt hc (fun h => h)
  have HB := Lib.hid hb
  clear hb
  go_enter Tryd.func48, Tryd.ntmps48
  go_wp2
  go_ret
  refine ⟨ret_bool ?_, (Mod.refl _ w).alloc _⟩
  rw [← HB.out, Bool.eq_iff_iff]; simp; omega
set_option maxHeartbeats 2000000 in
set_option maxRecDepth 10000 in
theorem setidx_any {w : World} {v : Value} {l : List (Nat × Nat)} (hv : SetV w v l) (hn : (l.length : Int) ≤ 100000) (kb id : Nat) (hc : w.cell? ⟨kb, 0, none⟩ = some (.int .u64 (id : Int))) :
    Calls Tryd.prog 65 #[v, .func (.func 48) #[] #[.pointer (some ⟨kb, 0, none⟩)]] w fun e w' => ∃ z : Int, e = .returned (.int .i64 z) ∧ ((l.any fun t => t.1 == id) = true → (0 : Int) ≤ z) ∧ ((l.any fun t => t.1 == id) = false → z = -1) ∧ Mod (fun _ => False) w w' := by
  have HV := Lib.hid hv
  have HC := Lib.hid hc
  obtain ⟨a, cap, rfl, hcap, _⟩ := set_val hv
  obtain ⟨n, hnn⟩ : ∃ n, n = l.length := ⟨_, rfl⟩
  rw [← hnn] at hn hcap ⊢
  have HN := Lib.hid hnn
  have hnc : (n : Int) ≤ cap := by omega
  obtain ⟨R, hR⟩ : ∃ R, R = (l.any fun t => t.1 == id) := ⟨_, rfl⟩
  rw [← hR]
  have HRR := Lib.hid hR
  clear hv hc hcap hnn hR
  go_enter Tryd.func65, Tryd.ntmps65
  go_wp2
  go_loopw [8] (fun s8 wr => ∃ k : Nat, k ≤ n ∧ s8 = .int .i64 k ∧ Mod (fun _ => False) w wr ∧ Hid ((l.take k).any (fun t => t.1 == id) = false)) (fun s8 _ => n - (intOf s8).toNat)
  case atStart => exact ⟨0, Nat.zero_le _, rfl, Mod.refl _ _, by show _ = _; simp⟩
  case round =>
    obtain ⟨k, hk, rfl, hM, HJ⟩ := hrel
    have HMr := Lib.hid hM
    clear hM
    by_cases hkn : (k : Int) < n
    · have hkl : k < l.length := by have := HN.out; omega
      have hs : l[k]? = some l[k] := List.getElem?_eq_getElem hkl
      generalize l[k] = s at hs
      obtain ⟨b, off, cp, hv, _, _, hcs⟩ := set_addr HV.out (by rintro rfl; simp at hkl)
      simp only [Value.slice.injEq] at hv
      obtain ⟨rfl, _, rfl⟩ := hv
      obtain ⟨g0, g1⟩ := hcs k s hs
      have g0' := HMr.out.cellAt g0 (fun h => h)
      have g1' := HMr.out.cellAt g1 (fun h => h)
      have hcr := HMr.out.cellAt HC.out (fun h => h)
      have HS := Lib.hid hs
      clear g0 g1 hs hcs hkl
      by_cases he : s.1 = id
      · have heq := Lib.hid (seteq_any wr kb id s.1 (.int .u64 (s.2 : Int)) true (decide_eq_true he) hcr)
        have HE := Lib.hid he
        clear he hcr
        go_wp2_with fail
        refine (heq.out).mono ?_
        rintro e w1 ⟨rfl, hM1⟩
        go_wp2
        go_ret
        refine ⟨(k : Int), rfl, fun _ => by omega, fun h => ?_, HMr.out.trans hM1⟩
        have hm := List.mem_of_getElem? HS.out
        have : (l.any fun t => t.1 == id) = true := List.any_eq_true.2 ⟨s, hm, by simpa using HE.out⟩
        rw [HRR.out, this] at h
        cases h
      · have heq := Lib.hid (seteq_any wr kb id s.1 (.int .u64 (s.2 : Int)) false (decide_eq_false he) hcr)
        have HE := Lib.hid he
        clear he hcr
        go_wp2_with fail
        refine (heq.out).mono ?_
        rintro e w1 ⟨rfl, hM1⟩
        go_wp2
        go_roundw
        case rel => exact ⟨k + 1, by omega, by go_num, HMr.out.trans hM1, by show _ = _; rw [take_snoc l k s HS.out, List.any_append, HJ.out]; simpa using HE.out⟩
        case measure => simp [intOf]; omega
    · have hkn' : k = n := by omega
      go_wp2
      go_ret
      have hall : l.take k = l := List.take_of_length_le (by have := HN.out; omega)
      have HJ' := HJ.out
      rw [hall] at HJ'
      exact ⟨-1, rfl, fun h => (by rw [HRR.out, HJ'] at h; cases h), fun _ => rfl, HMr.out⟩
theorem setin_any {w : World} {v : Value} {l : List (Nat × Nat)} (hv : SetV w v l) (hn : (l.length : Int) ≤ 100000) (kb id : Nat) (hc : w.cell? ⟨kb, 0, none⟩ = some (.int .u64 (id : Int))) :
    Calls Tryd.prog 47 #[v, .func (.func 48) #[] #[.pointer (some ⟨kb, 0, none⟩)]] w fun e w' => e = .returned (.bool (l.any fun t => t.1 == id)) ∧ Mod (fun _ => False) w w' := by
  have HX := Lib.hid (setidx_any hv hn kb id hc)
  obtain ⟨R, hR⟩ : ∃ R, R = (l.any fun t => t.1 == id) := ⟨_, rfl⟩
  rw [← hR] at HX ⊢
  obtain ⟨a, cap, rfl, _⟩ := set_val hv
  clear hv hc hR hn
  generalize l.length = n at *
  go_enter Tryd.func47, Tryd.ntmps47
  go_wp2_with fail
  refine (HX.out).mono ?_
  rintro e w1 ⟨z, rfl, h1, h2, hM⟩
  have H1 := Lib.hid h1
  have H2 := Lib.hid h2
  clear h1 h2
  go_wp2
  go_ret
  refine ⟨ret_bool ?_, hM⟩
  have h1 := H1.out
  have h2 := H2.out
  cases hi : R
  · have := h2 hi; subst this; rfl
  · have := h1 hi; simpa using this
/-- The beginning of settings. -/
theorem set_take {w : World} {a : Option Addr} {n cap k : Nat} {l : List (Nat × Nat)} (h : SetV w (.slice a n cap) l) (hn : n = l.length) (hk : k ≤ n) : SetV w (.slice a k cap) (l.take k) := by
  obtain ⟨h1, a', cap', he, h2, h3, h4, h5⟩ := h
  simp only [Value.slice.injEq] at he
  obtain ⟨rfl, _, rfl⟩ := he
  have e : (l.take k).length = k := by rw [List.length_take]; omega
  have e2 : ∀ m : List (Nat × Nat), (m.flatMap setC).length = m.length * 2 := by
    intro m
    induction m with
    | nil => rfl
    | cons x m ih => rw [List.flatMap_cons, List.length_append, ih, List.length_cons]; simp [setC]; omega
  refine ⟨by rw [e2], a, cap, by rw [e], by rw [e]; omega, h3, h4, fun j u hu => ?_⟩
  have hl : (l.take k).flatMap setC ++ (l.drop k).flatMap setC = l.flatMap setC := by rw [← List.flatMap_append, List.take_append_drop]
  have hj : j < ((l.take k).flatMap setC).length := (List.getElem?_eq_some_iff.1 hu).1
  refine h5 j u ?_
  rw [← hl, List.getElem?_append_left hj]
  exact hu
/-- What the loop has seen. -/
def goodTo (l : List (Nat × Nat)) (k : Nat) : Prop := ∀ i s, i < k → l[i]? = some s → okSet s = true ∧ ((l.take i).any fun t => t.1 == s.1) = false
theorem settings_all : ∀ (l : List (Nat × Nat)), (∀ i s, l[i]? = some s → okSet s = true ∧ ((l.take i).any fun t => t.1 == s.1) = false) → l.all okSet = true ∧ freshB l = true
  | [], _ => ⟨rfl, rfl⟩
  | x :: l, h => by
    have h0 := h 0 x rfl
    obtain ⟨i1, i2⟩ := settings_all l (fun i s hs => by
      obtain ⟨a, b⟩ := h (i + 1) s (by simpa using hs)
      refine ⟨a, ?_⟩
      rw [List.take_succ_cons, List.any_cons] at b
      exact (Bool.or_eq_false_iff.1 b).2)
    refine ⟨by rw [List.all_cons, h0.1, i1]; rfl, ?_⟩
    rw [freshB, i2, Bool.and_true]
    cases hb : (l.any fun t => t.1 == x.1)
    · rfl
    · exfalso
      obtain ⟨t, ht, he⟩ := List.any_eq_true.1 hb
      obtain ⟨i, hi, rfl⟩ := List.getElem_of_mem ht
      have b := (h (i + 1) l[i] (by simp [List.getElem?_eq_getElem hi])).2
      rw [List.take_succ_cons, List.any_cons] at b
      have := (Bool.or_eq_false_iff.1 b).1
      simp only [beq_iff_eq, beq_eq_false_iff_ne] at he this
      exact this he.symm
theorem settings_bad {l : List (Nat × Nat)} {k : Nat} {s : Nat × Nat} (hs : l[k]? = some s) (h : okSet s = false ∨ ((l.take k).any fun t => t.1 == s.1) = true) : settingsB l = false := by
  unfold settingsB
  rcases h with h | h
  · have : l.all okSet = false := by
      cases ha : l.all okSet
      · rfl
      · have := List.all_eq_true.1 ha s (List.mem_of_getElem? hs); rw [h] at this; cases this
    rw [this]; rfl
  · have : freshB l = false := by
      have key : ∀ (l : List (Nat × Nat)) (k : Nat), l[k]? = some s → ((l.take k).any fun t => t.1 == s.1) = true → freshB l = false := by
        intro l
        induction l with
        | nil => intro k h; simp at h
        | cons x l ih =>
          intro k hk hh
          cases k with
          | zero => simp at hh
          | succ k =>
            have hk' : l[k]? = some s := by simpa using hk
            rw [List.take_succ_cons, List.any_cons, Bool.or_eq_true] at hh
            rw [freshB]
            rcases hh with hh | hh
            · have : (l.any fun t => t.1 == x.1) = true := List.any_eq_true.2 ⟨s, List.mem_of_getElem? hk', by simp only [beq_iff_eq] at hh ⊢; exact hh.symm⟩
              rw [this]; rfl
            · rw [ih k hk' hh, Bool.and_false]
      exact key l k hs h
    rw [this, Bool.and_false, Bool.false_and]
end Go.Proofs.YtcnpiclpdgkngaaDoor
