/- Parts of the proof: Utf Shf YfC YfD YfE YfF YfG YfH. -/
import Derived.Test.YtahgidkpjmecdaaGreatDoorB01
import Derived.Test.YtahgidkpjmecdaaGreatDoorB02
import Derived.Test.YtahgidkpjmecdaaGreatDoorB03
import Derived.Test.YtahgidkpjmecdaaGreatDoorB05
import Derived.Test.YtahgidkpjmecdaaGreatDoorB19
import Derived.Lib.DecodeN
import Derived.Shelf.Unicode.DecodeLastEight
import Derived.Test.YtahgidkpjmecdaaGreatDoorProg
import Derived.Shelf.Lay
import Derived.Shelf.LaySoft
import Derived.Shelf.Spec.DecodeRune
import Derived.Deep.RegionHeld3
set_option maxRecDepth 100000
namespace Go.Proofs.YtahgidkpjmecdaaGreatDoor
open Go.Lib
theorem dec_get (m : List UInt8) (k : Nat) (x : UInt8) (h : m[k]? = some x) : (ByteArray.mk m.toArray).get! k = x := by
 have hk := (List.getElem?_eq_some_iff.1 h)
 obtain ⟨hk, rfl⟩ := hk
 show (m.toArray)[k]! = _
 simp [hk]
theorem decodeN_tail (n b0 b1 b2 b3 : Nat) (h : ¬ b0 < 128) : 128 ≤ (decodeN n b0 b1 b2 b3).1 ∧ 1 ≤ (decodeN n b0 b1 b2 b3).2 ∧ ((decodeN n b0 b1 b2 b3).2 = 1 ∨ ((decodeN n b0 b1 b2 b3).2 = 2 ∧ 1 < n ∧ 128 ≤ b1) ∨ ((decodeN n b0 b1 b2 b3).2 = 3 ∧ 2 < n ∧ 128 ≤ b1 ∧ 128 ≤ b2) ∨ ((decodeN n b0 b1 b2 b3).2 = 4 ∧ 3 < n ∧ 128 ≤ b1 ∧ 128 ≤ b2 ∧ 128 ≤ b3)) := by
 unfold decodeN
 rw [if_neg h]
 split
 ·split
  ·refine ⟨by simp only; omega, by simp, .inr (.inl ⟨rfl, by omega, by omega⟩)⟩
  ·exact ⟨by simp, by simp, .inl rfl⟩
 ·split
  ·split
   ·refine ⟨by simp only; omega, by simp, .inr (.inr (.inl ⟨rfl, by omega, by omega, by omega⟩))⟩
   ·exact ⟨by simp, by simp, .inl rfl⟩
  ·split
   ·split
    ·refine ⟨by simp only; omega, by simp, .inr (.inr (.inr ⟨rfl, by omega, by omega, by omega, by omega⟩))⟩
    ·exact ⟨by simp, by simp, .inl rfl⟩
   ·exact ⟨by simp, by simp, .inl rfl⟩
theorem dec_size (m : List UInt8) : (ByteArray.mk m.toArray).size = m.length := by simp [ByteArray.size]
theorem dec_ascii (m : List UInt8) (x : UInt8) (h : m[0]? = some x) (ha : x.toNat < 128) : decodeGo ⟨m.toArray⟩ = (x.toNat, 1) := by
 have h0 := dec_get m 0 x h
 have hl := (List.getElem?_eq_some_iff.1 h).1
 unfold decodeGo
 rw [if_neg (by rw [dec_size]; omega), decode_at, h0]
 unfold decodeN
 rw [if_pos ha]
theorem dec_high (m : List UInt8) (x : UInt8) (h : m[0]? = some x) (ha : ¬ x.toNat < 128) :
  128 ≤ (decodeGo ⟨m.toArray⟩).1 ∧ 1 ≤ (decodeGo ⟨m.toArray⟩).2 ∧ (decodeGo ⟨m.toArray⟩).2 ≤ m.length ∧ ∀ j y, j < (decodeGo ⟨m.toArray⟩).2 → m[j]? = some y → 128 ≤ y.toNat := by
 have h0 := dec_get m 0 x h
 have hl := (List.getElem?_eq_some_iff.1 h).1
 have e : decodeGo ⟨m.toArray⟩ = decodeN m.length x.toNat ((ByteArray.mk m.toArray).get! 1).toNat ((ByteArray.mk m.toArray).get! 2).toNat ((ByteArray.mk m.toArray).get! 3).toNat := by
  unfold decodeGo
  rw [if_neg (by rw [dec_size]; omega), decode_at, h0, dec_size]
  rfl
 obtain ⟨k1, k2, k3⟩ := decodeN_tail m.length x.toNat ((ByteArray.mk m.toArray).get! 1).toNat ((ByteArray.mk m.toArray).get! 2).toNat ((ByteArray.mk m.toArray).get! 3).toNat ha
 rw [← e] at k1 k2 k3
 generalize decodeGo ⟨m.toArray⟩ = d at *
 refine ⟨k1, k2, by omega, fun j y hj hy => ?_⟩
 have g := dec_get m j y hy
 have hj4 : j = 0 ∨ j = 1 ∨ j = 2 ∨ j = 3 := by omega
 rcases hj4 with rfl | rfl | rfl | rfl
 ·rw [h] at hy
  obtain rfl := Option.some.inj hy
  omega
 all_goals (rw [g] at k3; omega)
end Go.Proofs.YtahgidkpjmecdaaGreatDoor
namespace Go.Proofs
open Go.Shelf
shelf_try shelf_lay Lays7.n32 Nm7 32 at Tryz as Tryz.lays32
shelf_tried
end Go.Proofs
set_option maxRecDepth 100000
namespace Go.Proofs.YtahgidkpjmecdaaGreatDoor
open Go.RowKit
def setC (s : Nat × Nat) : List Value := [.int .u64 (s.1 : Int), .int .u64 (s.2 : Int)]
def SetV (w : World) (v : Value) (l : List (Nat × Nat)) : Prop := Sl w 2 v l.length (l.flatMap setC)
theorem setC_one (l : List (Nat × Nat)) : ∀ u ∈ l.flatMap setC, u.oneCell' = true := by
 intro u hu
 obtain ⟨s, _, h⟩ := List.mem_flatMap.1 hu
 simp only [setC, List.mem_cons, List.not_mem_nil, or_false] at h
 rcases h with rfl | rfl <;> rfl
theorem setC_at : ∀ (l : List (Nat × Nat)) (i : Nat) (s : Nat × Nat), l[i]? = some s → (l.flatMap setC)[i * 2]? = some (.int .u64 (s.1 : Int)) ∧ (l.flatMap setC)[i * 2 + 1]? = some (.int .u64 (s.2 : Int))
 | [], i, s, h => by simp at h
 | x :: l, 0, s, h => by simp at h; subst h; exact ⟨rfl, rfl⟩
 | x :: l, i + 1, s, h => by
  have := setC_at l i s (by simpa using h)
  rw [List.flatMap_cons, show (i + 1) * 2 = i * 2 + 2 by omega]
  exact this
theorem set_val {w : World} {v : Value} {l : List (Nat × Nat)} (h : SetV w v l) : ∃ a cap, v = .slice a l.length cap ∧ l.length ≤ cap ∧ cap ≤ maxLen ∧ (a = none → cap = 0) := Sl.val h
theorem set_addr {w : World} {v : Value} {l : List (Nat × Nat)} (h : SetV w v l) (hx : l ≠ []) :
  ∃ b off cap, v = .slice (some ⟨b, off, none⟩) l.length cap ∧ l.length ≤ cap ∧ cap ≤ maxLen ∧ ∀ i s, l[i]? = some s → w.cell? ⟨b, off + i * 2, none⟩ = some (.int .u64 (s.1 : Int)) ∧ w.cell? ⟨b, off + i * 2 + 1, none⟩ = some (.int .u64 (s.2 : Int)) := by
 obtain ⟨b, off, cap, h1, h2, h3, h4⟩ := Sl.addr h (by
  cases l with
  | nil => exact absurd rfl hx
  | cons x l => simp [setC])
 refine ⟨b, off, cap, h1, h2, h3, fun i s hs => ?_⟩
 obtain ⟨e1, e2⟩ := setC_at l i s hs
 exact ⟨h4 _ _ e1, by rw [Nat.add_assoc]; exact h4 _ _ e2⟩
theorem SetV.kept {w w' : World} {v : Value} {l : List (Nat × Nat)} (h : SetV w v l) (hM : Mod (fun _ => False) w w') : SetV w' v l := Sl.kept h hM (fun _ _ h => h)
set_option maxRecDepth 10000 in
theorem seteq_any (w : World) (kb id j : Nat) (y : Value) (b : Bool) (hb : decide (j = id) = b) (hc : w.cell? ⟨kb, 0, none⟩ = some (.int .u64 (id : Int))) :
  Calls Tryz.prog 121 #[.agg #[.int .u64 (j : Int), y], .pointer (some ⟨kb, 0, none⟩)] w fun e w' => e = .returned (.bool b) ∧ Mod (fun _ => False) w w' := by
 have hc' := ((Mod.refl (fun _ => False) w).alloc (.cells #[.int .u64 (j : Int), y] 74)).cellAt hc (fun h => h)
 have HB := Lib.hid hb
 clear hb
 go_enter Tryz.func121, Tryz.ntmps121
 go_wp2
 go_ret
 refine ⟨ret_bool ?_, (Mod.refl _ w).alloc _⟩
 rw [← HB.out, Bool.eq_iff_iff]; simp; omega
set_option maxHeartbeats 2000000 in
set_option maxRecDepth 10000 in
theorem setidx_any {w : World} {v : Value} {l : List (Nat × Nat)} (hv : SetV w v l) (hn : (l.length : Int) ≤ 100000) (kb id : Nat) (hc : w.cell? ⟨kb, 0, none⟩ = some (.int .u64 (id : Int))) :
  Calls Tryz.prog 201 #[v, .func (.func 121) #[] #[.pointer (some ⟨kb, 0, none⟩)]] w fun e w' => ∃ z : Int, e = .returned (.int .i64 z) ∧ ((l.any fun t => t.1 == id) = true → (0 : Int) ≤ z) ∧ ((l.any fun t => t.1 == id) = false → z = -1) ∧ Mod (fun _ => False) w w' := by
 have HV := Lib.hid hv
 have HC := Lib.hid hc
 obtain ⟨a, cap, rfl, hcap, _⟩ := set_val hv
 obtain ⟨n, hnn⟩ : ∃ n, n = l.length := ⟨_, rfl⟩
 rw [← hnn] at hn hcap ⊢
 have HN := Lib.hid hnn
 have hnc : (n : Int) ≤ cap := by omega
 obtain ⟨R, hR⟩ : ∃ R, R = (l.any fun t => t.1 == id) := ⟨_, rfl⟩
 rw [← hR]
 have HRR := Lib.hid hR
 clear hv hc hcap hnn hR
 go_enter Tryz.func201, Tryz.ntmps201
 go_wp2
 go_loopw [8] (fun s8 wr => ∃ k : Nat, k ≤ n ∧ s8 = .int .i64 k ∧ Mod (fun _ => False) w wr ∧ Hid ((l.take k).any (fun t => t.1 == id) = false)) (fun s8 _ => n - (intOf s8).toNat)
 case atStart => exact ⟨0, Nat.zero_le _, rfl, Mod.refl _ _, by show _ = _; simp⟩
 case round =>
  obtain ⟨k, hk, rfl, hM, HJ⟩ := hrel
  have HMr := Lib.hid hM
  clear hM
  by_cases hkn : (k : Int) < n
  ·have hkl : k < l.length := by have := HN.out; omega
   have hs : l[k]? = some l[k] := List.getElem?_eq_getElem hkl
   generalize l[k] = s at hs
   obtain ⟨b, off, cp, hv, _, _, hcs⟩ := set_addr HV.out (by rintro rfl; simp at hkl)
   simp only [Value.slice.injEq] at hv
   obtain ⟨rfl, _, rfl⟩ := hv
   obtain ⟨g0, g1⟩ := hcs k s hs
   have g0' := HMr.out.cellAt g0 (fun h => h)
   have g1' := HMr.out.cellAt g1 (fun h => h)
   have hcr := HMr.out.cellAt HC.out (fun h => h)
   have HS := Lib.hid hs
   clear g0 g1 hs hcs hkl
   by_cases he : s.1 = id
   ·have heq := Lib.hid (seteq_any wr kb id s.1 (.int .u64 (s.2 : Int)) true (decide_eq_true he) hcr)
    have HE := Lib.hid he
    clear he hcr
    go_wp2_with fail
    refine (heq.out).mono ?_
    rintro e w1 ⟨rfl, hM1⟩
    go_wp2
    go_ret
    refine ⟨(k : Int), rfl, fun _ => by omega, fun h => ?_, HMr.out.trans hM1⟩
    have hm := List.mem_of_getElem? HS.out
    have : (l.any fun t => t.1 == id) = true := List.any_eq_true.2 ⟨s, hm, by simpa using HE.out⟩
    rw [HRR.out, this] at h
    cases h
   ·have heq := Lib.hid (seteq_any wr kb id s.1 (.int .u64 (s.2 : Int)) false (decide_eq_false he) hcr)
    have HE := Lib.hid he
    clear he hcr
    go_wp2_with fail
    refine (heq.out).mono ?_
    rintro e w1 ⟨rfl, hM1⟩
    go_wp2
    go_roundw
    case rel => exact ⟨k + 1, by omega, by go_num, HMr.out.trans hM1, by show _ = _; rw [take_snoc l k s HS.out, List.any_append, HJ.out]; simpa using HE.out⟩
    case measure => simp [intOf]; omega
  ·have hkn' : k = n := by omega
   go_wp2
   go_ret
   have hall : l.take k = l := List.take_of_length_le (by have := HN.out; omega)
   have HJ' := HJ.out
   rw [hall] at HJ'
   exact ⟨-1, rfl, fun h => (by rw [HRR.out, HJ'] at h; cases h), fun _ => rfl, HMr.out⟩
theorem setin_any {w : World} {v : Value} {l : List (Nat × Nat)} (hv : SetV w v l) (hn : (l.length : Int) ≤ 100000) (kb id : Nat) (hc : w.cell? ⟨kb, 0, none⟩ = some (.int .u64 (id : Int))) :
  Calls Tryz.prog 120 #[v, .func (.func 121) #[] #[.pointer (some ⟨kb, 0, none⟩)]] w fun e w' => e = .returned (.bool (l.any fun t => t.1 == id)) ∧ Mod (fun _ => False) w w' := by
 have HX := Lib.hid (setidx_any hv hn kb id hc)
 obtain ⟨R, hR⟩ : ∃ R, R = (l.any fun t => t.1 == id) := ⟨_, rfl⟩
 rw [← hR] at HX ⊢
 obtain ⟨a, cap, rfl, _⟩ := set_val hv
 clear hv hc hR hn
 generalize l.length = n at *
 go_enter Tryz.func120, Tryz.ntmps120
 go_wp2_with fail
 refine (HX.out).mono ?_
 rintro e w1 ⟨z, rfl, h1, h2, hM⟩
 have H1 := Lib.hid h1
 have H2 := Lib.hid h2
 clear h1 h2
 go_wp2
 go_ret
 refine ⟨ret_bool ?_, hM⟩
 have h1 := H1.out
 have h2 := H2.out
 cases hi : R
 ·have := h2 hi; subst this; rfl
 ·have := h1 hi; simpa using this
theorem set_take {w : World} {a : Option Addr} {n cap k : Nat} {l : List (Nat × Nat)} (h : SetV w (.slice a n cap) l) (hn : n = l.length) (hk : k ≤ n) : SetV w (.slice a k cap) (l.take k) := by
 obtain ⟨h1, a', cap', he, h2, h3, h4, h5⟩ := h
 simp only [Value.slice.injEq] at he
 obtain ⟨rfl, _, rfl⟩ := he
 have e : (l.take k).length = k := by rw [List.length_take]; omega
 have e2 : ∀ m : List (Nat × Nat), (m.flatMap setC).length = m.length * 2 := by
  intro m
  induction m with
  | nil => rfl
  | cons x m ih => rw [List.flatMap_cons, List.length_append, ih, List.length_cons]; simp [setC]; omega
 refine ⟨by rw [e2], a, cap, by rw [e], by rw [e]; omega, h3, h4, fun j u hu => ?_⟩
 have hl : (l.take k).flatMap setC ++ (l.drop k).flatMap setC = l.flatMap setC := by rw [← List.flatMap_append, List.take_append_drop]
 have hj : j < ((l.take k).flatMap setC).length := (List.getElem?_eq_some_iff.1 hu).1
 refine h5 j u ?_
 rw [← hl, List.getElem?_append_left hj]
 exact hu
def goodTo (l : List (Nat × Nat)) (k : Nat) : Prop := ∀ i s, i < k → l[i]? = some s → okSet s = true ∧ ((l.take i).any fun t => t.1 == s.1) = false
theorem settings_all : ∀ (l : List (Nat × Nat)), (∀ i s, l[i]? = some s → okSet s = true ∧ ((l.take i).any fun t => t.1 == s.1) = false) → l.all okSet = true ∧ freshB l = true
 | [], _ => ⟨rfl, rfl⟩
 | x :: l, h => by
  have h0 := h 0 x rfl
  obtain ⟨i1, i2⟩ := settings_all l (fun i s hs => by
   obtain ⟨a, b⟩ := h (i + 1) s (by simpa using hs)
   refine ⟨a, ?_⟩
   rw [List.take_succ_cons, List.any_cons] at b
   exact (Bool.or_eq_false_iff.1 b).2)
  refine ⟨by rw [List.all_cons, h0.1, i1]; rfl, ?_⟩
  rw [freshB, i2, Bool.and_true]
  cases hb : (l.any fun t => t.1 == x.1)
  ·rfl
  ·exfalso
   obtain ⟨t, ht, he⟩ := List.any_eq_true.1 hb
   obtain ⟨i, hi, rfl⟩ := List.getElem_of_mem ht
   have b := (h (i + 1) l[i] (by simp [List.getElem?_eq_getElem hi])).2
   rw [List.take_succ_cons, List.any_cons] at b
   have := (Bool.or_eq_false_iff.1 b).1
   simp only [beq_iff_eq, beq_eq_false_iff_ne] at he this
   exact this he.symm
theorem settings_bad {l : List (Nat × Nat)} {k : Nat} {s : Nat × Nat} (hs : l[k]? = some s) (h : okSet s = false ∨ ((l.take k).any fun t => t.1 == s.1) = true) : settingsB l = false := by
 unfold settingsB
 rcases h with h | h
 ·have : l.all okSet = false := by
   cases ha : l.all okSet
   ·rfl
   ·have := List.all_eq_true.1 ha s (List.mem_of_getElem? hs); rw [h] at this; cases this
  rw [this]; rfl
 ·have : freshB l = false := by
   have key : ∀ (l : List (Nat × Nat)) (k : Nat), l[k]? = some s → ((l.take k).any fun t => t.1 == s.1) = true → freshB l = false := by
    intro l
    induction l with
    | nil => intro k h; simp at h
    | cons x l ih =>
     intro k hk hh
     cases k with
     | zero => simp at hh
     | succ k =>
      have hk' : l[k]? = some s := by simpa using hk
      rw [List.take_succ_cons, List.any_cons, Bool.or_eq_true] at hh
      rw [freshB]
      rcases hh with hh | hh
      ·have : (l.any fun t => t.1 == x.1) = true := List.any_eq_true.2 ⟨s, List.mem_of_getElem? hk', by simp only [beq_iff_eq] at hh ⊢; exact hh.symm⟩
       rw [this]; rfl
      ·rw [ih k hk' hh, Bool.and_false]
   exact key l k hs h
  rw [this, Bool.and_false, Bool.false_and]
theorem size49 (a b : Value) : (Tryz.prog.info? 74).map (·.size) = some (#[a, b] : Array Value).size := by show _ = some 2; kernel_rfl
theorem okSet_no {s : Nat × Nat} (h : (s.1 : Int) = 0 ∨ ((2 : Int) ≤ s.1 ∧ (s.1 : Int) ≤ 5) ∨ (htopN : Int) < s.1 ∨ (htopN : Int) < s.2) : okSet s = false := by
  cases hb : okSet s
  · rfl
  · exfalso
    unfold okSet at hb
    simp only [Bool.and_eq_true, Bool.not_eq_true', Bool.and_eq_false_iff, decide_eq_true_eq, decide_eq_false_iff_not] at hb
    omega
theorem okSet_yes {s : Nat × Nat} (h0 : ¬ (s.1 : Int) = 0) (h2 : ¬ ((2 : Int) ≤ s.1 ∧ (s.1 : Int) ≤ 5)) (h3 : (s.1 : Int) ≤ htopN) (h4 : (s.2 : Int) ≤ htopN) : okSet s = true := by
  unfold okSet
  simp only [Bool.and_eq_true, Bool.not_eq_true', Bool.and_eq_false_iff, decide_eq_true_eq, decide_eq_false_iff_not]
  omega
theorem goodTo_succ {l : List (Nat × Nat)} {k : Nat} {s : Nat × Nat} (h : goodTo l k) (hs : l[k]? = some s) (h1 : okSet s = true) (h2 : ((l.take k).any fun t => t.1 == s.1) = false) : goodTo l (k + 1) := by
  intro i t hi ht
  by_cases hik : i < k
  · exact h i t hik ht
  · obtain rfl : i = k := by omega
    rw [hs] at ht
    obtain rfl := Option.some.inj ht
    exact ⟨h1, h2⟩
set_option maxHeartbeats 4000000 in
set_option maxRecDepth 10000 in
theorem settings_any {w : World} {v : Value} {l : List (Nat × Nat)} (hv : SetV w v l) (hn : (l.length : Int) ≤ 100000) :
    Calls Tryz.prog 75 #[v] w fun e w' => e = .returned (.bool (settingsB l)) ∧ Mod (fun _ => False) w w' := by
  have HV := Lib.hid hv
  obtain ⟨a, cap, rfl, hcap, _⟩ := set_val hv
  obtain ⟨n, hnn⟩ : ∃ n, n = l.length := ⟨_, rfl⟩
  rw [← hnn] at hn hcap ⊢
  have HN := Lib.hid hnn
  have hnc : (n : Int) ≤ cap := by omega
  obtain ⟨R, hR⟩ : ∃ R, R = settingsB l := ⟨_, rfl⟩
  rw [← hR]
  have HRR := Lib.hid hR
  clear hv hcap hnn hR
  go_enter Tryz.func75, Tryz.ntmps75
  go_wp2
  go_loopw [7] (fun s7 wr => ∃ k : Nat, k ≤ n ∧ s7 = .int .i64 k ∧ Mod (fun _ => False) w wr ∧ Hid (goodTo l k)) (fun s7 _ => n - (intOf s7).toNat)
  case atStart => exact ⟨0, Nat.zero_le _, rfl, Mod.refl _ _, fun i s hi _ => by omega⟩
  case round =>
    obtain ⟨k, hk, rfl, hM, HJ⟩ := hrel
    have HMr := Lib.hid hM
    clear hM
    by_cases hkn : (k : Int) < n
    · have hkl : k < l.length := by have := HN.out; omega
      have hs : l[k]? = some l[k] := List.getElem?_eq_getElem hkl
      generalize l[k] = s at hs
      obtain ⟨b, off, cp, hv, _, _, hcs⟩ := set_addr HV.out (by rintro rfl; simp at hkl)
      simp only [Value.slice.injEq] at hv
      obtain ⟨rfl, _, rfl⟩ := hv
      obtain ⟨g0, g1⟩ := hcs k s hs
      have g0' := HMr.out.cellAt g0 (fun h => h)
      have g1' := HMr.out.cellAt g1 (fun h => h)
      have HS := Lib.hid hs
      clear g0 g1 hs hcs hkl
      have htk : ∀ (w' : World), Mod (fun _ => False) w w' → SetV w' (.slice (some ⟨b, off, none⟩) k cap) (l.take k) := fun w' hM => set_take (by rw [← HN.out] at HV; exact HV.out.kept hM) HN.out hk
      have HTK := Lib.hid htk
      have hkc : (k : Int) ≤ cap := by omega
      have HLK : Hid (((l.take k).length : Int) ≤ 100000) := by show _ ≤ _; rw [List.length_take]; omega
      clear htk
      go_wp2_with ((with_reducible refine wpList_store_blk ?_ 74 (.tmp 4) (.tmp 11) ?_ wr.heap.size ?_ #[.int .u64 0, .int .u64 0] #[.int .u64 (s.1 : Int), .int .u64 (s.2 : Int)] ?_ 74 (Blk.new _ _ _) (size49 _ _) ?_ ?_ ?_); (iterate 5 exact rfl); (· intro v hv; simp at hv; rcases hv with rfl | rfl <;> rfl); intro wx hBx hMx; have HMx := Lib.hid (HMr.out.trans (((Mod.refl (fun _ => False) wr).alloc _).trans' hMx (fun i hi e => by omega))); have x0 : wx.cell? ⟨wr.heap.size, 0, none⟩ = some (.int .u64 (s.1 : Int)) := hBx.cellAt 0 rfl; have x1 : wx.cell? ⟨wr.heap.size, 1, none⟩ = some (.int .u64 (s.2 : Int)) := hBx.cellAt 1 rfl; clear hBx hMx)
      all_goals first
        | (go_ret
           refine ⟨ret_bool ?_, HMx.out⟩
           rw [HRR.out]
           exact (settings_bad HS.out (.inl (okSet_no (by unfold htopN; omega)))).symm)
        | (have hok : okSet s = true := okSet_yes (by omega) (by omega) (by unfold htopN; omega) (by unfold htopN; omega)
           have HOK := Lib.hid hok
           clear hok
           refine (setin_any (HTK.out wx HMx.out) HLK.out _ _ x0).mono ?_
           rintro e w2 ⟨rfl, hM2⟩
           cases hany : ((l.take k).any fun t => t.1 == s.1)
           · have HANY := Lib.hid hany
             clear hany
             go_wp2_with fail
             all_goals first
               | (exfalso
                  rename_i hh
                  simp only [beq_iff_eq] at hh
                  omega)
               | (go_roundw
                  case rel => exact ⟨k + 1, by omega, by go_num, HMx.out.trans hM2, goodTo_succ HJ.out HS.out HOK.out HANY.out⟩
                  case measure => simp [intOf]; omega)
           · have HANY := Lib.hid hany
             clear hany
             go_wp2_with fail
             go_ret
             refine ⟨ret_bool ?_, HMx.out.trans hM2⟩
             rw [HRR.out]
             exact (settings_bad HS.out (.inr HANY.out)).symm)
    · have hkn' : k = n := by omega
      have hall := settings_all l (fun i s hs => HJ.out i s (by have := (List.getElem?_eq_some_iff.1 hs).1; have := HN.out; omega) hs)
      go_wp2
      go_ret
      refine ⟨ret_bool ?_, HMr.out⟩
      rw [HRR.out]
      unfold settingsB
      rw [hall.1, hall.2, ← HN.out, Bool.eq_iff_iff]
      simp
      omega
structure HFV (w : World) (f : HF) (vs vd : Value) : Prop where
  st : SetV w vs f.st
  d : Byts w vd f.d
  sl : (f.st.length : Int) ≤ 100000
  dl : (f.d.length : Int) ≤ 140737488355328
theorem HFV.kept {w w' : World} {f : HF} {vs vd : Value} (h : HFV w f vs vd) (hM : Mod (fun _ => False) w w') : HFV w' f vs vd := ⟨h.st.kept hM, Sl.kept h.d hM (fun _ _ h => h), h.sl, h.dl⟩
def hfA (f : HF) (vs vd : Value) : Value := .agg #[.int .i64 f.k, .int .u64 (f.id : Int), vs, vd]
theorem right_data {f : HF} (h : f.k = 0 ∨ f.k = 1) : rightH f = (decide (f.id = 0) && decide (f.st.length = 0) && decide (f.d.length ≤ 1000)) := by
  unfold rightH isData
  rcases h with h | h <;> rw [h] <;> rfl
theorem right_set {f : HF} (h : f.k = 4) : rightH f = (decide (f.id = 0) && decide (f.d.length = 0) && settingsB f.st) := by
  unfold rightH isData
  rw [h]
  rfl
theorem right_id {f : HF} (h : f.k = 3 ∨ f.k = 7 ∨ f.k = 13) : rightH f = (decide (f.id ≤ htopN) && decide (f.d.length + f.st.length = 0)) := by
  unfold rightH isData isId
  rcases h with h | h | h <;> rw [h] <;> rfl
theorem hright_none {f : HF} (h : ¬ (f.k = 0 ∨ f.k = 1) ∧ ¬ f.k = 4 ∧ ¬ (f.k = 3 ∨ f.k = 7 ∨ f.k = 13)) : rightH f = false := by
  unfold rightH isData isId
  obtain ⟨h1, h2, h3⟩ := h
  have e1 : (decide (f.k = 0) || decide (f.k = 1)) = false := by simp; omega
  have e2 : (decide (f.k = 3) || decide (f.k = 7) || decide (f.k = 13)) = false := by simp; omega
  rw [e1, e2, if_neg (by simp), if_neg h2, if_neg (by simp)]
set_option maxHeartbeats 4000000 in
set_option maxRecDepth 10000 in
theorem hright_any {w : World} {f : HF} {vs vd : Value} (hv : HFV w f vs vd) : Calls Tryz.prog 45 #[hfA f vs vd] w fun e w' => e = .returned (.bool (rightH f)) ∧ Mod (fun _ => False) w w' := by
  have HV := Lib.hid hv
  have hsl := hv.sl
  have hdl := hv.dl
  obtain ⟨sa, sc, rfl, _⟩ := set_val hv.st
  obtain ⟨da, dc, rfl, _⟩ := byts_val hv.d
  unfold hfA
  obtain ⟨R, hR⟩ : ∃ R, R = rightH f := ⟨_, rfl⟩
  rw [← hR]
  by_cases h0 : f.k = 0 ∨ f.k = 1
  · have HR := Lib.hid (hR.trans (right_data h0))
    clear hv hR
    generalize f.st.length = ns at *
    generalize f.d.length = nd at *
    generalize f.id = i at *
    rcases h0 with h | h
    all_goals
      rw [h]
      clear h
      go_enter Tryz.func45, Tryz.ntmps45
      go_wp2
    all_goals go_ret
    all_goals refine ⟨ret_bool ?_, (Mod.refl _ w).alloc _⟩
    all_goals (rw [HR.out]; simp_all <;> omega)
  · by_cases h4 : f.k = 4
    · have HR := Lib.hid (hR.trans (right_set h4))
      clear hv hR h0
      rw [h4]
      clear h4
      generalize hS : settingsB f.st = S at *
      have HSS := Lib.hid hS
      clear hS
      generalize f.st.length = ns at *
      generalize f.d.length = nd at *
      generalize f.id = i at *
      go_enter Tryz.func45, Tryz.ntmps45
      go_wp2_with fail
      all_goals first
        | (go_ret
           refine ⟨ret_bool ?_, (Mod.refl _ w).alloc _⟩
           rw [HR.out]
           simp_all)
        | (refine (settings_any (HV.out.st.kept ((Mod.refl (fun _ => False) w).alloc _)) HV.out.sl).mono ?_
           rintro e w1 ⟨rfl, hM1⟩
           rw [HSS.out]
           go_wp2_with fail
           go_ret
           refine ⟨ret_bool ?_, ((Mod.refl _ w).alloc _).trans hM1⟩
           rw [HR.out]
           simp_all)
    · by_cases h3 : f.k = 3 ∨ f.k = 7 ∨ f.k = 13
      · have HR := Lib.hid (hR.trans (right_id h3))
        clear hv hR h0 h4
        generalize f.st.length = ns at *
        generalize f.d.length = nd at *
        generalize f.id = i at *
        have hw : IntKind.i64.wrap ((nd : Int) + (ns : Int)) = (nd : Int) + ns := IntWalk.i64_in _ (by omega)
        rcases h3 with h | h | h
        all_goals
          rw [h]
          clear h
          go_enter Tryz.func45, Tryz.ntmps45
          go_wp2
        all_goals go_ret
        all_goals refine ⟨ret_bool ?_, (Mod.refl _ w).alloc _⟩
        all_goals (rw [HR.out]; unfold htopN; rw [Bool.eq_iff_iff]; simp_all <;> omega)
      · have HR := Lib.hid (hR.trans (hright_none ⟨h0, h4, h3⟩))
        generalize f.k = k at *
        have t0 : (k == 0) = false := by simp; omega
        have t1 : (k == 1) = false := by simp; omega
        have t4 : (k == 4) = false := by simp; omega
        have t3 : (k == 3) = false := by simp; omega
        have t7 : (k == 7) = false := by simp; omega
        have t13 : (k == 13) = false := by simp; omega
        clear hv hR h0 h4 h3
        generalize f.st.length = ns at *
        generalize f.d.length = nd at *
        generalize f.id = i at *
        go_enter Tryz.func45, Tryz.ntmps45
        go_wp2
        go_ret
        exact ⟨ret_bool HR.out.symm, (Mod.refl _ w).alloc _⟩
def hfnV (n : Nat) : Value := .func (.func n) #[] #[]
def pairV (a b : Nat) : Value := .agg #[hfnV a, hfnV b]
def hkindsF (y : Int) : Option Value :=
 if y = 4 then some (pairV 83 84)
 else if y = 13 then some (pairV 80 81)
 else if y = 7 then some (pairV 80 81)
 else if y = 3 then some (pairV 80 81)
 else if y = 1 then some (pairV 76 77)
 else if y = 0 then some (pairV 76 77) else none
theorem size55 (a b : Value) : (Tryz.prog.info? 118).map (·.size) = some (#[a, b] : Array Value).size := by show _ = some 2; kernel_rfl
theorem hokKey_small {z : Int} (h0 : 0 ≤ z) (h1 : z ≤ 100) : okKey z := by
 have e0 : IntKind.i64.min = -9223372036854775808 := by decide
 have e1 : IntKind.i64.max = 9223372036854775807 := by decide
 unfold okKey
 simp only [Lit.wf, e0, e1, Bool.and_eq_true, decide_eq_true_eq]
 omega
theorem kinds_blk {w x1 x2 : World} {C D : Array Value} (h : Mod (fun _ => False) x1 x2) (h1 : Blk x1 w.heap.size C 118) (h2 : Blk x2 x1.heap.size D 118) :
  ∀ X, Mod (fun k => k = x2.heap.size) (x2.alloc (.map #[] 0)) X → Blk X w.heap.size C 118 ∧ Blk X x1.heap.size D 118 := fun X hX => by
 have h1' := h.blk h1 (fun h => h)
 have l1 := h1'.lt
 have l2 := h2.lt
 exact ⟨hX.blk (h1'.alloc _) (by omega), hX.blk (h2.alloc _) (by omega)⟩
set_option maxHeartbeats 4000000 in
set_option maxRecDepth 10000 in
theorem hkinds_any (w : World) : Calls Tryz.prog 46 #[] w fun e w' => ∃ mb, e = .returned (.map (some mb)) ∧ VMap w' mb 6 hkindsF ∧ Mod (fun _ => False) w w' := by
 have hmm := @run_makeMap Tryz.prog
 go_enter Tryz.func46, Tryz.ntmps46
 go_wp2_with (first
  | ((with_reducible refine wpList_store_blk ?_ 118 (.tmp 1) (.tmp 3) ?_ w.heap.size ?_ #[.nilFunc, .nilFunc] #[hfnV 76, hfnV 77] ?_ 118 (Blk.new _ _ _) (size55 _ _) ?_ ?_ ?_); (iterate 5 exact rfl); (· intro v hv; simp at hv; rcases hv with rfl | rfl <;> rfl); intro x1 hB1 hM1; have HM1 := Lib.hid (((Mod.refl (fun _ => False) w).alloc _).trans' hM1 (fun i hi e => by omega)); have HB1 := Lib.hid hB1; clear hB1 hM1)
  | ((with_reducible refine wpList_store_blk ?_ 118 (.tmp 2) (.tmp 4) ?_ x1.heap.size ?_ #[.nilFunc, .nilFunc] #[hfnV 80, hfnV 81] ?_ 118 (Blk.new _ _ _) (size55 _ _) ?_ ?_ ?_); (iterate 5 exact rfl); (· intro v hv; simp at hv; rcases hv with rfl | rfl <;> rfl); intro x2 hB2 hM2; have HM2 := Lib.hid (((Mod.refl (fun _ => False) x1).alloc _).trans' hM2 (fun i hi e => by omega)); have HBB := Lib.hid (kinds_blk HM2.out HB1.out hB2); have HV := Lib.hid (VMap.made x2); have HZ : Hid (Mod (fun k => k = x2.heap.size) (x2.alloc (.map #[] 0)) (x2.alloc (.map #[] 0))) := Mod.refl _ _; clear hB2 hM2)
  | ((with_reducible refine wpList_load_blk ?_ 118 (.tmp 1) ?_ w.heap.size ?_ #[hfnV 76, hfnV 77] 118 _ (HBB.out _ HZ.out).1 Tryz.underlying118 ?_ (size55 _ _) ?_); (iterate 4 exact rfl))
  | ((with_reducible refine wpList_load_blk ?_ 118 (.tmp 2) ?_ x1.heap.size ?_ #[hfnV 80, hfnV 81] 118 _ (HBB.out _ HZ.out).2 Tryz.underlying118 ?_ (size55 _ _) ?_); (iterate 4 exact rfl))
  | ((with_reducible refine wpList_insert_v ?_ (.tmp 5) (.const (.int .i64 0)) (.tmp 6) ?_ Tryz.underlying119 ?_ HV.out (by decide) ?_ (hokKey_small (z := 0) (by decide) (by decide)) (val := .agg #[hfnV 76, hfnV 77]) ?_ ?_); (iterate 5 exact rfl); intro x3 hV hM; have hZ2 := HZ.out.trans hM; clear HZ HV hM; have HV := Lib.hid hV; have HZ := Lib.hid hZ2; clear hV hZ2)
  | ((with_reducible refine wpList_insert_v ?_ (.tmp 5) (.const (.int .i64 1)) (.tmp 7) ?_ Tryz.underlying119 ?_ HV.out (by decide) ?_ (hokKey_small (z := 1) (by decide) (by decide)) (val := .agg #[hfnV 76, hfnV 77]) ?_ ?_); (iterate 5 exact rfl); intro x3 hV hM; have hZ2 := HZ.out.trans hM; clear HZ HV hM; have HV := Lib.hid hV; have HZ := Lib.hid hZ2; clear hV hZ2)
  | ((with_reducible refine wpList_insert_v ?_ (.tmp 5) (.const (.int .i64 3)) (.tmp 8) ?_ Tryz.underlying119 ?_ HV.out (by decide) ?_ (hokKey_small (z := 3) (by decide) (by decide)) (val := .agg #[hfnV 80, hfnV 81]) ?_ ?_); (iterate 5 exact rfl); intro x3 hV hM; have hZ2 := HZ.out.trans hM; clear HZ HV hM; have HV := Lib.hid hV; have HZ := Lib.hid hZ2; clear hV hZ2)
  | ((with_reducible refine wpList_insert_v ?_ (.tmp 5) (.const (.int .i64 7)) (.tmp 9) ?_ Tryz.underlying119 ?_ HV.out (by decide) ?_ (hokKey_small (z := 7) (by decide) (by decide)) (val := .agg #[hfnV 80, hfnV 81]) ?_ ?_); (iterate 5 exact rfl); intro x3 hV hM; have hZ2 := HZ.out.trans hM; clear HZ HV hM; have HV := Lib.hid hV; have HZ := Lib.hid hZ2; clear hV hZ2)
  | ((with_reducible refine wpList_insert_v ?_ (.tmp 5) (.const (.int .i64 13)) (.tmp 10) ?_ Tryz.underlying119 ?_ HV.out (by decide) ?_ (hokKey_small (z := 13) (by decide) (by decide)) (val := .agg #[hfnV 80, hfnV 81]) ?_ ?_); (iterate 5 exact rfl); intro x3 hV hM; have hZ2 := HZ.out.trans hM; clear HZ HV hM; have HV := Lib.hid hV; have HZ := Lib.hid hZ2; clear hV hZ2)
  | ((with_reducible refine wpList_insert_v ?_ (.tmp 5) (.const (.int .i64 4)) (.tmp 11) ?_ Tryz.underlying119 ?_ HV.out (by decide) ?_ (hokKey_small (z := 4) (by decide) (by decide)) (val := .agg #[hfnV 83, hfnV 84]) ?_ ?_); (iterate 5 exact rfl); intro x3 hV hM; have hZ2 := HZ.out.trans hM; clear HZ HV hM; have HV := Lib.hid hV; have HZ := Lib.hid hZ2; clear hV hZ2))
 go_ret
 refine ⟨_, rfl, ?_, ?_⟩
 ·exact HV.out
 ·exact ((HM1.out.trans HM2.out).alloc _).trans' HZ.out (fun i hi e => by have := HM1.out.size; have := HM2.out.size; omega)
theorem hputL_len (n : Nat) : (putL n).length ≤ 8 := by rw [putL_length]; exact szN_le n
theorem hputL_pos (n : Nat) (h : n ≤ htopN) : 0 < (putL n).length := by
 unfold htopN at h
 rw [putL_length]
 rcases szN_cases n with h' | h' | h' | h' | h' <;> omega
theorem parts3 {w : World} {b : Nat} {v1 v2 v3 : Value} {l1 l2 l3 : List UInt8} {T : TypeId} (hb : Blk w b #[v1, v2, v3] T) (h1 : Byts w v1 l1) (h2 : Byts w v2 l2) (h3 : Byts w v3 l3) : Parts w b 0 [l1, l2, l3] := by
 intro i l hl
 obtain ⟨a1, c1, rfl, _⟩ := byts_val h1
 obtain ⟨a2, c2, rfl, _⟩ := byts_val h2
 obtain ⟨a3, c3, rfl, _⟩ := byts_val h3
 rw [Nat.zero_add]
 match i, hl with
 | 0, hl => simp at hl; subst hl; exact ⟨_, _, hb.cellAt 0 rfl, h1⟩
 | 1, hl => simp at hl; subst hl; exact ⟨_, _, hb.cellAt 1 rfl, h2⟩
 | 2, hl => simp at hl; subst hl; exact ⟨_, _, hb.cellAt 2 rfl, h3⟩
 | (_ + 3), hl => simp at hl
theorem concat3 {w : World} {b : Nat} {v1 v2 v3 : Value} {l1 l2 l3 : List UInt8} {T : TypeId} (hb : Blk w b #[v1, v2, v3] T) (h1 : Byts w v1 l1) (h2 : Byts w v2 l2) (h3 : Byts w v3 l3) {L : List UInt8} (hL : l1 ++ l2 ++ l3 = L) (hl : (L.length : Int) ≤ 100000) (hp : 0 < L.length) :
  Calls Tryz.prog 47 #[.slice (some ⟨b, 0, none⟩) 3 3] w fun e w' => ∃ v', e = .returned v' ∧ OwnB w' w.heap.size v' L ∧ Mod (fun _ => False) w w' := by
 have e : [l1, l2, l3].flatten = L := by rw [← hL]; simp
 rw [← e] at hl hp ⊢
 exact concat_any (n := 3) (c := 3) (ls := [l1, l2, l3]) rfl (Nat.le_refl _) (parts3 hb h1 h2 h3) hl hp (by decide)
set_option maxRecDepth 10000 in
theorem kput_data {w : World} {f : HF} {vs vd : Value} (hv : HFV w f vs vd) : Calls Tryz.prog 76 #[hfA f vs vd] w fun e w' => e = .returned vd ∧ Mod (fun _ => False) w w' := by
 obtain ⟨sa, sc, rfl, _⟩ := set_val hv.st
 obtain ⟨da, dc, rfl, _⟩ := byts_val hv.d
 unfold hfA
 clear hv
 generalize f.st.length = ns at *
 generalize f.d.length = nd at *
 generalize (f.id : Int) = i at *
 generalize f.k = k at *
 go_enter Tryz.func76, Tryz.ntmps76
 go_wp2
 go_ret
 exact ⟨rfl, (Mod.refl _ w).alloc _⟩
set_option maxRecDepth 10000 in
theorem kput_id {w : World} {f : HF} {vs vd : Value} (hT : Tabs w) (hv : HFV w f vs vd) : Calls Tryz.prog 80 #[hfA f vs vd] w fun e w' => ∃ v, e = .returned v ∧ OwnB w' w.heap.size v (putL f.id) ∧ Mod (fun _ => False) w w' := by
 obtain ⟨sa, sc, rfl, _⟩ := set_val hv.st
 obtain ⟨da, dc, rfl, _⟩ := byts_val hv.d
 unfold hfA
 have HP := Lib.hid (fun X (h : Mod (fun _ => False) w X) => put_any f.id X (h.tabs hT (fun h => h)))
 have HE : Hid (∀ X, Mod (fun _ => False) w X → w.heap.size ≤ X.heap.size) := fun X h => h.size
 clear hv hT
 generalize f.st.length = ns at *
 generalize f.d.length = nd at *
 generalize putL f.id = P at *
 generalize (f.id : Int) = i at *
 generalize f.k = k at *
 go_enter Tryz.func80, Tryz.ntmps80
 go_wp2_with fail
 refine (HP.out _ ((Mod.refl _ _).alloc _)).mono ?_
 rintro e w1 ⟨v, rfl, ho, hM⟩
 obtain ⟨a1, c1, rfl, _⟩ := byts_val ho.byts
 have HM := Lib.hid (((Mod.refl (fun _ => False) w).alloc _).trans hM)
 have HO := Lib.hid ho
 clear ho hM HP
 generalize P.length = np at *
 go_wp2_with fail
 go_ret
 exact ⟨_, rfl, HO.out.mono (by simp), HM.out⟩
theorem setL_len (l : List (Nat × Nat)) : (setL l).length ≤ 16 * l.length := by
 unfold setL
 induction l with
 | nil => simp
 | cons s l ih =>
  have h1 := hputL_len s.1
  have h2 := hputL_len s.2
  rw [List.flatMap_cons, List.length_append, List.length_append, List.length_cons]
  omega
set_option maxHeartbeats 8000000 in
set_option maxRecDepth 10000 in
theorem kput_set {w : World} {f : HF} {vs vd : Value} (hT : Tabs w) (hv : HFV w f vs vd) (hok : ∀ s ∈ f.st, s.1 ≤ htopN ∧ s.2 ≤ htopN) (hlen : f.st.length ≤ 100) :
  Calls Tryz.prog 83 #[hfA f vs vd] w fun e w' => ∃ v, e = .returned v ∧ OwnB w' w.heap.size v (setL f.st) ∧ Mod (fun _ => False) w w' := by
 have HPU := Lib.hid (fun (n : Nat) X (h : Mod (fun _ => False) w X) => put_any n X (h.tabs hT (fun h => h)))
 have HOK := Lib.hid hok
 have HLE := Lib.hid hlen
 have HV := Lib.hid hv.st
 obtain ⟨da, dc, rfl, _⟩ := byts_val hv.d
 clear hv hT hok hlen
 obtain ⟨a, cap, rfl, hcap, _⟩ := set_val HV.out
 unfold hfA
 generalize hst : f.st = l at *
 obtain ⟨n, hnn⟩ : ∃ n, n = l.length := ⟨_, rfl⟩
 rw [← hnn] at hcap ⊢
 have hn100 : (n : Int) ≤ 100 := by rw [hnn]; have := HLE.out; omega
 have HN := Lib.hid hnn
 have hnc : (n : Int) ≤ cap := by omega
 clear hst hcap hnn
 generalize f.d.length = nd at *
 generalize (f.id : Int) = i at *
 generalize f.k = k0 at *
 go_enter Tryz.func83, Tryz.ntmps83
 have HM0 : Hid (Mod (fun _ => False) w (w.alloc (.cells #[.int .i64 k0, .int .u64 i, .slice a n cap, .slice da nd dc] 77))) := (Mod.refl _ w).alloc _
 go_wp2
 go_loopw [3, 9] (fun s3 s9 wr => ∃ k : Nat, k ≤ n ∧ s9 = .int .i64 k ∧ ∃ ap cp, s3 = .slice ap (setL (l.take k)).length cp ∧ Hid (OwnB wr w.heap.size (.slice ap (setL (l.take k)).length cp) (setL (l.take k)) ∧ Mod (fun _ => False) w wr)) (fun _ s9 _ => n - (intOf s9).toNat)
 case atStart => exact ⟨0, Nat.zero_le _, rfl, none, 0, rfl, ⟨OwnB.nil _ _, HM0.out⟩⟩
 case round =>
  clear HM0
  obtain ⟨k, hk, rfl, ap, cp, rfl, HR⟩ := hrel
  by_cases hkn : (k : Int) < n
  ·have hkl : k < l.length := by have := HN.out; omega
   have hs : l[k]? = some l[k] := List.getElem?_eq_getElem hkl
   generalize l[k] = s at hs
   obtain ⟨b, off, cp0, hv, _, _, hcs⟩ := set_addr HV.out (by rintro rfl; simp at hkl)
   simp only [Value.slice.injEq] at hv
   obtain ⟨rfl, _, rfl⟩ := hv
   obtain ⟨g0, g1⟩ := hcs k s hs
   have g0' := HR.out.2.cellAt g0 (fun h => h)
   have g1' := HR.out.2.cellAt g1 (fun h => h)
   have hsk := HOK.out s (List.mem_of_getElem? hs)
   have HS := Lib.hid hs
   obtain ⟨L, hL⟩ : ∃ x, x = setL (l.take (k + 1)) := ⟨_, rfl⟩
   have HLL := Lib.hid hL
   have HNEW : Hid (setL (l.take k) ++ putL s.1 ++ putL s.2 = L) := by show _ = _; rw [hL, take_snoc l k s hs]; simp [setL]
   have HPOS : Hid (0 < L.length) := by show 0 < _; rw [← HNEW.out]; have := hputL_pos s.1 hsk.1; simp; omega
   have HLEN : Hid ((L.length : Int) ≤ 100000) := by
    show _ ≤ _
    rw [← HNEW.out]
    have h0 := setL_len (l.take k)
    have h1 := hputL_len s.1
    have h2 := hputL_len s.2
    have h3 : (l.take k).length ≤ 100 := by rw [List.length_take]; omega
    simp only [List.length_append]
    omega
   clear g0 g1 hs hcs hkl hsk hL
   obtain ⟨acc, hacc⟩ : ∃ x, x = setL (l.take k) := ⟨_, rfl⟩
   rw [← hacc] at HR HNEW ⊢
   clear hacc
   obtain ⟨n0, hn0⟩ : ∃ x, x = acc.length := ⟨_, rfl⟩
   rw [← hn0] at HR ⊢
   clear hn0
   go_wp2_with ((with_reducible refine wpList_store_blk ?_ 74 (.tmp 5) (.tmp 12) ?_ wr.heap.size ?_ #[.int .u64 0, .int .u64 0] #[.int .u64 (s.1 : Int), .int .u64 (s.2 : Int)] ?_ 74 (Blk.new _ _ _) (size49 _ _) ?_ ?_ ?_); (iterate 5 exact rfl); (· intro v hv; simp at hv; rcases hv with rfl | rfl <;> rfl); intro wx hBx hMx; have HMz := Lib.hid (((Mod.refl (fun _ => False) wr).alloc _).trans' hMx (fun i hi e => by omega)); have HMx := Lib.hid (HR.out.2.trans HMz.out); have x0 : wx.cell? ⟨wr.heap.size, 0, none⟩ = some (.int .u64 (s.1 : Int)) := hBx.cellAt 0 rfl; have x1 : wx.cell? ⟨wr.heap.size, 1, none⟩ = some (.int .u64 (s.2 : Int)) := hBx.cellAt 1 rfl; clear hBx hMx)
   have hd : Mod (fun _ => False) wx wx.drew := (Mod.refl _ _).drew
   have x0d := hd.cellAt x0 (fun h => h)
   have x1d := hd.cellAt x1 (fun h => h)
   have HPUT : Hid (∀ (n : Nat) X, Mod (fun _ => False) wx X → Calls Tryz.prog 48 #[.int .u64 (n : Int)] X fun e w' => ∃ v, e = .returned v ∧ OwnB w' X.heap.size v (putL n) ∧ Mod (fun _ => False) X w') := fun n X h => HPU.out n X (HMx.out.trans h)
   have HACCB := Lib.hid (byts_kept HR.out.1.byts HMz.out)
   refine wp_region_held_drew (S := fun X => X.cell? ⟨wr.heap.size, 0, none⟩ = some (.int .u64 (s.1 : Int)) ∧ X.cell? ⟨wr.heap.size, 1, none⟩ = some (.int .u64 (s.2 : Int)) ∧ Mod (fun _ => False) wx X) (by kernel_rfl) ⟨x0d, x1d, hd⟩ (fun hS => ?_)
   refine wpAnyH_take (i := 0) (v := .slice ap n0 cp) rfl (by kernel_rfl) (by kernel_rfl) (by kernel_rfl) (fun _ _ _ h => h) (Or.inl ⟨by rfl, fun X hX => ?_⟩) hS ?_
   ·go_simp
   refine wpAnyH_take (i := 1) (v := .pointer (some ⟨wr.heap.size, 0, none⟩)) rfl (by kernel_rfl) (by kernel_rfl) (by kernel_rfl) (fun _ _ _ h => h) (Or.inl ⟨by rfl, fun X hX => ?_⟩) hS ?_
   ·go_simp
   refine wpAnyH_take (i := 2) (v := .int .u64 (s.1 : Int)) rfl (by kernel_rfl) (by kernel_rfl) (by kernel_rfl) (fun _ _ _ h => h) (Or.inl ⟨by rfl, fun X hX => ?_⟩) hS ?_
   ·have := hX.1; go_simp
   refine wpAnyH_take (i := 4) (v := .pointer (some ⟨wr.heap.size, 1, none⟩)) rfl (by kernel_rfl) (by kernel_rfl) (by kernel_rfl) (fun _ _ _ h => h) (Or.inl ⟨by rfl, fun X hX => ?_⟩) hS ?_
   ·go_simp
   refine wpAnyH_take (i := 5) (v := .int .u64 (s.2 : Int)) rfl (by kernel_rfl) (by kernel_rfl) (by kernel_rfl) (fun _ _ _ h => h) (Or.inl ⟨by rfl, fun X hX => ?_⟩) hS ?_
   ·have := hX.2.1; go_simp
   refine wpAnyH_ready (rs := [3]) (by kernel_rfl) (by simp) ?_
   refine AllReadyH.cons rfl (fun K hK => ?_) AllReadyH.nil
   go_simp
   refine (HPUT.out s.1 wx.drew hd).mono ?_
   rintro e Y1 ⟨v1, rfl, hoY1, hkY1⟩
   have hmY1 := hd.trans hkY1
   have hbY1 := byts_kept hoY1.byts (Mod.refl _ _)
   obtain ⟨aY1, cY1, rfl, _⟩ := byts_val hbY1
   refine hK.out _ _ ⟨hmY1.cellAt x0 (fun h => h), hmY1.cellAt x1 (fun h => h), hmY1⟩ (fun hS => ?_)
   clear hK K
   refine wpAnyH_ready (rs := [6]) (by kernel_rfl) (by simp) ?_
   refine AllReadyH.cons rfl (fun K hK => ?_) AllReadyH.nil
   go_simp
   refine (HPUT.out s.2 Y1 hmY1).mono ?_
   rintro e Y2 ⟨v2, rfl, hoY2, hkY2⟩
   have hmY2 := hmY1.trans hkY2
   have hbY2 := byts_kept hoY2.byts (Mod.refl _ _)
   obtain ⟨aY2, cY2, rfl, _⟩ := byts_val hbY2
   refine hK.out _ _ ⟨hmY2.cellAt x0 (fun h => h), hmY2.cellAt x1 (fun h => h), hmY2⟩ (fun hS => ?_)
   clear hK K
   have hR := hmY2.alloc (.cells #[.slice ap n0 cp, .slice aY1 (putL s.1).length cY1, .slice aY2 (putL s.2).length cY2] 31)
   have bR := Blk.new Y2 #[.slice ap n0 cp, .slice aY1 (putL s.1).length cY1, .slice aY2 (putL s.2).length cY2] 31
   refine wpAnyH_ready (rs := [7]) (by kernel_rfl) (by simp) ?_
   refine AllReadyH.cons rfl (fun K hK => ?_) AllReadyH.nil
   go_simp
   refine hK.out _ _ ⟨hR.cellAt x0 (fun h => h), hR.cellAt x1 (fun h => h), hR⟩ (fun hS => ?_)
   clear hK K
   refine wpAnyH_ready (rs := [8]) (by kernel_rfl) (by simp) ?_
   refine AllReadyH.cons rfl (fun K hK => ?_) AllReadyH.nil
   go_simp
   refine (concat3 bR (byts_kept HACCB.out hR) (byts_kept hbY1 (hkY2.alloc _)) (byts_kept hbY2 ((Mod.refl _ _).alloc _)) HNEW.out HLEN.out HPOS.out).mono ?_
   rintro e Y3 ⟨v3, rfl, ho3, hk3⟩
   have hm3 := hR.trans hk3
   obtain ⟨a3, c3, rfl, _⟩ := byts_val ho3.byts
   refine hK.out _ _ ⟨hm3.cellAt x0 (fun h => h), hm3.cellAt x1 (fun h => h), hm3⟩ (fun hS => ?_)
   clear hK K
   refine wpAnyH_ready (rs := [9]) (by kernel_rfl) (by simp) ?_
   refine AllReadyH.cons rfl (fun K hK => ?_) AllReadyH.nil
   go_simp
   refine hK.out _ _ ⟨hm3.cellAt x0 (fun h => h), hm3.cellAt x1 (fun h => h), hm3⟩ (fun hS => ?_)
   clear hK K
   refine wpAnyH_done (by kernel_rfl) ?_ _
   have HO3 := Lib.hid (ho3.mono (B' := w.heap.size) (by have := HMx.out.size; have := hR.size; omega))
   have HM3 := Lib.hid (HMx.out.trans hm3)
   clear ho3 hm3 hk3 hR bR hS
   rw [HLL.out] at HO3 ⊢
   go_wp2
   go_roundw
   case rel => exact ⟨k + 1, by omega, by go_num, a3, c3, rfl, ⟨HO3.out, HM3.out⟩⟩
   case measure => simp [intOf]; omega
  ·have hkn' : k = n := by omega
   have hall : l.take k = l := List.take_of_length_le (by have := HN.out; omega)
   rw [hall] at HR ⊢
   obtain ⟨L, hL⟩ : ∃ x, x = setL l := ⟨_, rfl⟩
   rw [← hL] at HR ⊢
   have HL := Lib.hid hL
   clear hL
   generalize L.length = nL at *
   go_wp2
   go_ret
   exact ⟨_, rfl, by rw [← HL.out]; exact HR.out.1, HR.out.2⟩
theorem exec_load {P : Program} {w : World} {a : Act} {op : Oper} {ty : TypeId} {x : Operand} (ho : op.op = .load ty x) {p v : Value} (hx : a.eval x = p) (hl : (Instr.loadAt ty p).run P w = .ok v w) : (execOp a.eval op).run P w = .ok (.value v) w := by
 unfold execOp
 simp only [ho, hx, Sem.run_bind, hl, Result.andThen_ok, Sem.run_pure]
theorem size26 (a b c d : Value) : (Tryz.prog.info? 77).map (·.size) = some (#[a, b, c, d] : Array Value).size := by show _ = some 4; kernel_rfl
theorem field0 (w : World) (a b : Nat) : (Instr.field 118 (.agg #[.func (.func a) #[] #[], .func (.func b) #[] #[]]) 0).run Tryz.prog w = .ok (.func (.func a) #[] #[]) w := by kernel_rfl
theorem hzero_kind (w : World) : (zeroValue 118).run Tryz.prog w = .ok (.agg #[.nilFunc, .nilFunc]) w := by kernel_rfl
theorem right_kinds {f : HF} (h : rightH f = true) : f.k = 0 ∨ f.k = 1 ∨ f.k = 3 ∨ f.k = 4 ∨ f.k = 7 ∨ f.k = 13 := by
 by_cases h1 : f.k = 0 ∨ f.k = 1
 ·omega
 by_cases h2 : f.k = 4
 ·omega
 by_cases h3 : f.k = 3 ∨ f.k = 7 ∨ f.k = 13
 ·omega
 rw [hright_none ⟨h1, h2, h3⟩] at h
 cases h
theorem settings_ok {l : List (Nat × Nat)} (h : settingsB l = true) : (∀ s ∈ l, s.1 ≤ htopN ∧ s.2 ≤ htopN) ∧ l.length ≤ 16 := by
 unfold settingsB at h
 simp only [Bool.and_eq_true, decide_eq_true_eq] at h
 refine ⟨fun s hs => ?_, h.2⟩
 have := List.all_eq_true.1 h.1.1 s hs
 unfold okSet at this
 simp only [Bool.and_eq_true, decide_eq_true_eq] at this
 exact ⟨this.1.2, this.2⟩
theorem hbody_len {f : HF} (h : rightH f = true) : (bodyL f).length ≤ 1000 := by
 unfold bodyL
 by_cases h1 : f.k = 0 ∨ f.k = 1
 ·rw [right_data h1] at h
  simp only [Bool.and_eq_true, decide_eq_true_eq] at h
  rw [if_pos (by unfold isData; simpa using h1)]
  exact h.2
 ·rw [if_neg (by unfold isData; simpa using h1)]
  by_cases h2 : f.k = 4
  ·rw [right_set h2] at h
   simp only [Bool.and_eq_true, decide_eq_true_eq] at h
   rw [if_pos h2]
   have := setL_len f.st
   have := (settings_ok h.2).2
   omega
  ·rw [if_neg h2]
   have := hputL_len f.id
   omega
set_option maxRecDepth 10000 in
theorem hput_no {w : World} {f : HF} {vs vd : Value} (hv : HFV w f vs vd) (hr : rightH f = false) : Calls Tryz.prog 27 #[hfA f vs vd] w fun e w' => ∃ v, e = .returned v ∧ OwnB w' w.heap.size v (hfputL f) ∧ Mod (fun _ => False) w w' := by
 have HR := Lib.hid (fun X (h : Mod (fun _ => False) w X) => hright_any (hv.kept h))
 rw [hr] at HR
 rw [show hfputL f = [] by rw [hfputL, if_neg (by simp [hr])]]
 obtain ⟨sa, sc, rfl, _⟩ := set_val hv.st
 obtain ⟨da, dc, rfl, _⟩ := byts_val hv.d
 unfold hfA at *
 generalize f.st.length = ns at *
 generalize f.d.length = nd at *
 generalize (f.id : Int) = i at *
 clear hv hr
 generalize f.k = k at *
 go_enter Tryz.func27, Tryz.ntmps27
 go_wp2_with fail
 refine (HR.out _ ((Mod.refl _ w).alloc _)).mono ?_
 rintro e w1 ⟨rfl, hk1⟩
 go_wp2_with fail
 go_ret
 exact ⟨_, rfl, OwnB.nil _ _, ((Mod.refl (fun _ => False) w).alloc _).trans hk1⟩
def PutsBody (w : World) (f : HF) (vs vd : Value) (fn : Nat) : Prop := ∀ X, Mod (fun _ => False) w X → Calls Tryz.prog fn #[hfA f vs vd] X fun e w' => ∃ a c, e = .returned (.slice a (bodyL f).length c) ∧ Byts w' (.slice a (bodyL f).length c) (bodyL f) ∧ Mod (fun _ => False) X w'
set_option maxHeartbeats 8000000 in
set_option maxRecDepth 10000 in
theorem hput_kind {w : World} {f : HF} {vs vd : Value} (hT : Tabs w) (hv : HFV w f vs vd) (hr : rightH f = true) (z : Int) (hk : f.k = z) (h0 : 0 ≤ z ∧ z ≤ 13) (fn1 fn2 : Nat) (hkf : hkindsF z = some (pairV fn1 fn2)) (hP : PutsBody w f vs vd fn1) (eg : ∀ args w, (callFunc fn1 args).run Tryz.prog w = .ok (.enter fn1 args) w) :
  Calls Tryz.prog 27 #[hfA f vs vd] w fun e w' => ∃ v, e = .returned v ∧ OwnB w' w.heap.size v (hfputL f) ∧ Mod (fun _ => False) w w' := by
 have HR := Lib.hid (fun X (h : Mod (fun _ => False) w X) => hright_any (hv.kept h))
 rw [hr] at HR
 have HPUT := Lib.hid hP
 have HPU := Lib.hid (fun (n : Nat) X (h : Mod (fun _ => False) w X) => put_any n X (h.tabs hT (fun h => h)))
 have HKF := Lib.hid hkf
 have HOK := Lib.hid (hokKey_small h0.1 (show z ≤ 100 by omega))
 have hzn : (f.k.toNat : Int) = z := by omega
 have HZN := Lib.hid hzn
 have hwz : IntKind.u64.wrap z = z := IntWalk.u64_in _ (by omega)
 obtain ⟨sa, sc, rfl, _⟩ := set_val hv.st
 obtain ⟨da, dc, rfl, _⟩ := byts_val hv.d
 have hbl := hbody_len hr
 have hwb : IntKind.u64.wrap ((bodyL f).length : Int) = ((bodyL f).length : Int) := IntWalk.u64_in _ (by omega)
 obtain ⟨L, hL⟩ : ∃ x, x = hfputL f := ⟨_, rfl⟩
 have HL : Hid (putL f.k.toNat ++ putL (bodyL f).length ++ bodyL f = L) := by show _ = _; rw [hL, hfputL, if_pos hr]
 have HPOS : Hid (0 < L.length) := by show 0 < _; rw [← HL.out]; have := hputL_pos f.k.toNat (by unfold htopN; omega); simp; omega
 have HLEN : Hid ((L.length : Int) ≤ 100000) := by
  show _ ≤ _
  rw [← HL.out]
  have h1 := hputL_len f.k.toNat
  have h2 := hputL_len (bodyL f).length
  simp only [List.length_append]
  omega
 rw [← hL]
 unfold PutsBody at HPUT
 generalize bodyL f = B at *
 unfold hfA at *
 rw [hk] at *
 generalize f.st.length = ns at *
 generalize f.d.length = nd at *
 generalize (f.id : Int) = i at *
 clear hP hkf hT hv hr hL hbl
 generalize z.toNat = zn at *
 clear hk
 clear hzn
 go_enter Tryz.func27, Tryz.ntmps27
 go_wp2_with fail
 refine (HR.out _ ((Mod.refl _ w).alloc _)).mono ?_
 rintro e w1 ⟨rfl, hk1⟩
 have hM1 := ((Mod.refl (fun _ => False) w).alloc _).trans hk1
 have hB1 := hk1.blk (Blk.new w #[.int .i64 z, .int .u64 i, .slice sa ns sc, .slice da nd dc] 77) (fun h => h)
 clear hk1
 have hM1d := hM1.drew
 have hB1d := (Mod.refl (fun _ => False) w1).drew.blk hB1 (fun h => h)
 go_wp2_with fail
 refine wp_region_held_drew (S := fun X => Blk X w.heap.size #[.int .i64 z, .int .u64 i, .slice sa ns sc, .slice da nd dc] 77 ∧ Mod (fun _ => False) w X) (by kernel_rfl) ⟨hB1d, hM1d⟩ (fun hS => ?_)
 refine wpAnyH_take (i := 1) (v := .pointer (some ⟨w.heap.size, 0, none⟩)) rfl (by kernel_rfl) (by kernel_rfl) (by kernel_rfl) (fun _ _ _ h => h) (Or.inl ⟨by rfl, fun X hX => ?_⟩) hS ?_
 ·go_simp
 refine wpAnyH_take (i := 2) (v := .int .i64 z) rfl (by kernel_rfl) (by kernel_rfl) (by kernel_rfl) (fun _ _ _ h => h) (Or.inl ⟨by rfl, fun X hX => ?_⟩) hS ?_
 ·have := hX.1.cellAt 0 rfl; go_simp
 refine wpAnyH_take (i := 5) (v := .agg #[.int .i64 z, .int .u64 i, .slice sa ns sc, .slice da nd dc]) rfl (by kernel_rfl) (by kernel_rfl) (by kernel_rfl) (fun _ _ _ h => h) (Or.inl ⟨by rfl, fun X hX => ?_⟩) hS ?_
 ·exact exec_load rfl (p := .pointer (some ⟨w.heap.size, 0, none⟩)) (by rfl) (blk_loadVar hX.1 Tryz.underlying77 rfl (size26 _ _ _ _))
 refine wpAnyH_ready (rs := [0]) (by kernel_rfl) (by simp) ?_
 refine AllReadyH.cons rfl (fun K hK => ?_) AllReadyH.nil
 go_simp
 refine (hkinds_any _).mono ?_
 rintro e X1 ⟨mb, rfl, hV, hk1⟩
 have hm1 := hM1d.trans hk1
 have hlk := hV.look (t := 119) (e := 118) HOK.out Tryz.underlying119 (hzero_kind X1)
 rw [HKF.out] at hlk
 simp only [Option.getD_some] at hlk
 refine hK.out _ _ ⟨hk1.blk hB1d (fun h => h), hm1⟩ (fun hS => ?_)
 clear hK K
 refine wpAnyH_ready (rs := [3]) (by kernel_rfl) (by simp) ?_
 refine AllReadyH.cons rfl (fun K hK => ?_) AllReadyH.nil
 go_simp
 refine hK.out _ _ ⟨hk1.blk hB1d (fun h => h), hm1⟩ (fun hS => ?_)
 clear hK K
 refine wpAnyH_take (i := 4) (v := .func (.func fn1) #[] #[]) rfl (by kernel_rfl) (by kernel_rfl) (by kernel_rfl) (fun _ _ _ h => h) (Or.inl ⟨by rfl, fun X hX => ?_⟩) hS ?_
 ·have := field0 X fn1 fn2; unfold pairV hfnV; go_simp
 refine wpAnyH_ready (rs := [6]) (by kernel_rfl) (by simp) ?_
 refine AllReadyH.cons rfl (fun K hK => ?_) AllReadyH.nil
 go_simp
 refine (HPUT.out X1 hm1).mono ?_
 rintro e X2 ⟨a2, c2, rfl, hb2, hk2⟩
 have hm2 := hm1.trans hk2
 refine hK.out _ _ ⟨hk2.blk (hk1.blk hB1d (fun h => h)) (fun h => h), hm2⟩ (fun hS => ?_)
 clear hK K
 refine wpAnyH_ready (rs := [7]) (by kernel_rfl) (by simp) ?_
 refine AllReadyH.cons rfl (fun K hK => ?_) AllReadyH.nil
 go_simp
 refine hK.out _ _ ⟨hk2.blk (hk1.blk hB1d (fun h => h)) (fun h => h), hm2⟩ (fun hS => ?_)
 clear hK K
 refine wpAnyH_done (by kernel_rfl) ?_ _
 have hB3 := hk2.blk (hk1.blk hB1d (fun h => h)) (fun h => h)
 have hc3 := hB3.cellAt 0 rfl
 have HB2 := Lib.hid hb2
 have HM2 := Lib.hid hm2
 generalize hnb : B.length = nb at *
 clear hb2 hm2 hk1 hk2 hlk hV hS hM1 hM1d hB1 hB1d hB3
 go_wp2_with fail
 rw [← HZN.out]
 refine (HPU.out zn X2 HM2.out).mono ?_
 rintro e X3 ⟨v3, rfl, ho3, hk3⟩
 have HM3 := Lib.hid (HM2.out.trans hk3)
 have HB3 := Lib.hid (byts_kept HB2.out hk3)
 obtain ⟨a3, c3, rfl, _⟩ := byts_val ho3.byts
 have HO3 := Lib.hid ho3.byts
 clear ho3 hk3 HM2 HB2
 go_wp2_with fail
 refine (HPU.out nb X3 HM3.out).mono ?_
 rintro e X4 ⟨v4, rfl, ho4, hk4⟩
 have HM4 := Lib.hid (HM3.out.trans hk4)
 have HB4 := Lib.hid (byts_kept HB3.out hk4)
 have HO4 := Lib.hid (byts_kept HO3.out hk4)
 obtain ⟨a4, c4, rfl, _⟩ := byts_val ho4.byts
 have HP4 := Lib.hid ho4.byts
 clear ho4 hk4 HM3 HB3 HO3
 have HLL := Lib.hid HL.out
 generalize putL zn = p1 at *
 generalize putL nb = p2 at *
 generalize hn1 : p1.length = n1 at *
 generalize hn2 : p2.length = n2 at *
 have hR := (Mod.refl (fun _ => False) X4).alloc (.cells #[.slice a3 n1 c3, .slice a4 n2 c4, .slice a2 nb c2] 31)
 have bR := Blk.new X4 #[.slice a3 n1 c3, .slice a4 n2 c4, .slice a2 nb c2] 31
 have HC := Lib.hid (concat3 bR (byts_kept HO4.out hR) (byts_kept HP4.out hR) (byts_kept HB4.out hR) HL.out HLEN.out HPOS.out)
 clear bR
 have HRR := Lib.hid hR
 clear hR
 go_wp2_with fail
 refine (HC.out).mono ?_
 rintro e X5 ⟨v5, rfl, ho5, hk5⟩
 have HM5 := Lib.hid ((HM4.out.trans HRR.out).trans hk5)
 have HO5 := Lib.hid (ho5.mono (B' := w.heap.size) (by have := (HM4.out.trans HRR.out).size; exact this))
 clear ho5 hk5
 go_wp2_with fail
 go_ret
 exact ⟨_, rfl, HO5.out, HM5.out⟩
theorem enter_data (args : Array Value) (w : World) : (callFunc 76 args).run Tryz.prog w = .ok (.enter 76 args) w := by kernel_rfl
theorem enter_id (args : Array Value) (w : World) : (callFunc 80 args).run Tryz.prog w = .ok (.enter 80 args) w := by kernel_rfl
theorem enter_set (args : Array Value) (w : World) : (callFunc 83 args).run Tryz.prog w = .ok (.enter 83 args) w := by kernel_rfl
theorem body_of_own {X : World} {f : HF} {vs vd : Value} {fn : Nat} {B : List UInt8} (hB : bodyL f = B) (h : Calls Tryz.prog fn #[hfA f vs vd] X fun e w' => ∃ v, e = .returned v ∧ OwnB w' X.heap.size v B ∧ Mod (fun _ => False) X w') :
  Calls Tryz.prog fn #[hfA f vs vd] X fun e w' => ∃ a c, e = .returned (.slice a (bodyL f).length c) ∧ Byts w' (.slice a (bodyL f).length c) (bodyL f) ∧ Mod (fun _ => False) X w' := by
 subst hB
 refine h.mono ?_
 rintro e w' ⟨v, rfl, ho, hM⟩
 obtain ⟨a, c, rfl, _⟩ := byts_val ho.byts
 exact ⟨a, c, rfl, ho.byts, hM⟩
theorem hput_any {w : World} {f : HF} {vs vd : Value} (hT : Tabs w) (hv : HFV w f vs vd) : Calls Tryz.prog 27 #[hfA f vs vd] w fun e w' => ∃ v, e = .returned v ∧ OwnB w' w.heap.size v (hfputL f) ∧ Mod (fun _ => False) w w' := by
 cases hr : rightH f
 ·exact hput_no hv hr
 ·have hk := right_kinds hr
  have hd : f.k = 0 ∨ f.k = 1 → PutsBody w f vs vd 76 := fun h X hX => by
   have e : bodyL f = f.d := by unfold bodyL; rw [if_pos (by unfold isData; simpa using h)]
   rw [e]
   have hb := (hv.kept hX).d
   obtain ⟨a, c, rfl, _⟩ := byts_val hb
   refine (kput_data (hv.kept hX)).mono ?_
   rintro e w' ⟨rfl, hM⟩
   exact ⟨a, c, rfl, byts_kept hb hM, hM⟩
  have hi : f.k = 3 ∨ f.k = 7 ∨ f.k = 13 → PutsBody w f vs vd 80 := fun h X hX =>
   body_of_own (by unfold bodyL; rw [if_neg (by unfold isData; simp; omega), if_neg (by omega)]) (kput_id (hX.tabs hT (fun h => h)) (hv.kept hX))
  have hs : f.k = 4 → PutsBody w f vs vd 83 := fun h X hX => by
   have hr' := hr
   rw [right_set h] at hr'
   simp only [Bool.and_eq_true, decide_eq_true_eq] at hr'
   have hok := settings_ok hr'.2
   exact body_of_own (by unfold bodyL; rw [if_neg (by unfold isData; simp; omega), if_pos h]) (kput_set (hX.tabs hT (fun h => h)) (hv.kept hX) hok.1 (by omega))
  rcases hk with h | h | h | h | h | h
  ·exact hput_kind hT hv hr 0 h (by decide) _ _ rfl (hd (.inl h)) enter_data
  ·exact hput_kind hT hv hr 1 h (by decide) _ _ rfl (hd (.inr h)) enter_data
  ·exact hput_kind hT hv hr 3 h (by decide) _ _ rfl (hi (.inl h)) enter_id
  ·exact hput_kind hT hv hr 4 h (by decide) _ _ rfl (hs h) enter_set
  ·exact hput_kind hT hv hr 7 h (by decide) _ _ rfl (hi (.inr (.inl h))) enter_id
  ·exact hput_kind hT hv hr 13 h (by decide) _ _ rfl (hi (.inr (.inr h))) enter_id
end Go.Proofs.YtahgidkpjmecdaaGreatDoor
