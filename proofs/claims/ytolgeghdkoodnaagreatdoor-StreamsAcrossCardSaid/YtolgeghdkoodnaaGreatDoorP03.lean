/- Parts of the proof: GaD GaE TkH Beq. -/
import Derived.Test.YtolgeghdkoodnaaGreatDoorP02
import Derived.Deep.RegionHeld
import Derived.WalkLawsBesides
set_option maxRecDepth 100000
namespace Go.Proofs.YtolgeghdkoodnaaGreatDoor
open Go.RowKit
def OkK (fn k : Nat) : Prop := ∀ (w : World) (f : Fr) (vd vr : Value), FrV w f vd vr → topB f = true → Calls Tryz.prog fn #[frV f vd vr] w fun e w' => e = .returned (.bool (okN k f)) ∧ Mod (fun _ => False) w w'
theorem ok_fine {w : World} {f : Fr} {vd vr : Value} : Calls Tryz.prog 109 #[frV f vd vr] w fun e w' => e = .returned (.bool true) ∧ Mod (fun _ => False) w w' := by
 unfold frV
 generalize frC f vd vr = C at *
 go_enter Tryz.func109, Tryz.ntmps109
 go_wp2
 go_ret
 exact ⟨rfl, (Mod.refl _ _).alloc _⟩
set_option maxRecDepth 10000 in
theorem ok_pad : OkK 107 0 := by
 intro w f vd vr hv ht
 have e2 : (frC f vd vr)[2]? = some (.int .u64 (f.a : Int)) := rfl
 have HO : Hid (okN 0 f = (decide (1 ≤ f.a) && decide (f.a ≤ 1200))) := rfl
 rw [HO.out]
 unfold frV
 clear hv ht HO
 generalize frC f vd vr = C at *
 generalize f.a = n at *
 go_enter Tryz.func107, Tryz.ntmps107
 go_wp2
 all_goals go_ret
 all_goals refine ⟨ret_bool ?_, (Mod.refl _ _).alloc _⟩
 all_goals (rw [Bool.eq_iff_iff]; simp_all <;> omega)
set_option maxRecDepth 10000 in
theorem ok_long {w : World} {f : Fr} {vd vr : Value} (hv : FrV w f vd vr) : Calls Tryz.prog 125 #[frV f vd vr] w fun e w' => e = .returned (.bool (decide (f.d.length ≤ 1200))) ∧ Mod (fun _ => False) w w' := by
 have hdl := hv.dl
 obtain ⟨da, dc, rfl, _⟩ := byts_val hv.d
 have e6 : (frC f (.slice da f.d.length dc) vr)[6]? = some (.slice da f.d.length dc) := rfl
 unfold frV
 clear hv
 generalize frC f (.slice da f.d.length dc) vr = C at *
 generalize f.d.length = n at *
 go_enter Tryz.func125, Tryz.ntmps125
 go_wp2
 all_goals go_ret
 all_goals refine ⟨ret_bool ?_, (Mod.refl _ _).alloc _⟩
 all_goals (rw [Bool.eq_iff_iff]; simp_all <;> omega)
set_option maxRecDepth 10000 in
theorem ok_is8 {w : World} {f : Fr} {vd vr : Value} (hv : FrV w f vd vr) : Calls Tryz.prog 106 #[frV f vd vr] w fun e w' => e = .returned (.bool (decide (f.d.length = 8))) ∧ Mod (fun _ => False) w w' := by
 have hdl := hv.dl
 obtain ⟨da, dc, rfl, _⟩ := byts_val hv.d
 have e6 : (frC f (.slice da f.d.length dc) vr)[6]? = some (.slice da f.d.length dc) := rfl
 unfold frV
 clear hv
 generalize frC f (.slice da f.d.length dc) vr = C at *
 generalize f.d.length = n at *
 go_enter Tryz.func106, Tryz.ntmps106
 go_wp2
 all_goals go_ret
 all_goals refine ⟨ret_bool ?_, (Mod.refl _ _).alloc _⟩
 all_goals (rw [Bool.eq_iff_iff]; simp_all <;> omega)
set_option maxRecDepth 10000 in
theorem ok_few {w : World} {f : Fr} {vd vr : Value} : Calls Tryz.prog 129 #[frV f vd vr] w fun e w' => e = .returned (.bool (decide (f.a ≤ 1152921504606846976))) ∧ Mod (fun _ => False) w w' := by
 have e2 : (frC f vd vr)[2]? = some (.int .u64 (f.a : Int)) := rfl
 unfold frV
 generalize frC f vd vr = C at *
 generalize f.a = n at *
 go_enter Tryz.func129, Tryz.ntmps129
 go_wp2
 all_goals go_ret
 all_goals refine ⟨ret_bool ?_, (Mod.refl _ _).alloc _⟩
 all_goals (rw [Bool.eq_iff_iff]; simp_all <;> omega)
theorem loadWhole (w : World) (f : Fr) (vd vr : Value) (h : f.t.length = 16) : ∀ X, X = w.alloc (.cells (frC f vd vr) 52) → (Instr.loadAt 52 (.pointer (some ⟨w.heap.size, 0, none⟩))).run Tryz.prog X = .ok (frV f vd vr) X := by
 rintro X rfl
 exact run_loadAt_mid (w.alloc (.cells (frC f vd vr) 52)) w.heap.size 0 52 (frC f vd vr).toList _ (Blk.new w (frC f vd vr) 52).whole Tryz.underlying52 rfl (sizeFr f vd vr h)
set_option maxHeartbeats 1000000 in
set_option maxRecDepth 10000 in
theorem ok_ends {w : World} {f : Fr} {vd vr : Value} (hv : FrV w f vd vr) (ha : f.a ≤ topN) : Calls Tryz.prog 121 #[frV f vd vr] w fun e w' => e = .returned (.bool (decide (f.d.length ≤ 1200) && decide (f.a + f.d.length ≤ topN))) ∧ Mod (fun _ => False) w w' := by
 have hdl := hv.dl
 have hM := (Mod.refl (fun _ => False) w).alloc (.cells (frC f vd vr) 52)
 have HL := Lib.hid (ok_long (hv.kept hM))
 have HW := Lib.hid (loadWhole w f vd vr hv.t)
 have HMM := Lib.hid hM
 obtain ⟨da, dc, rfl, _⟩ := byts_val hv.d
 have e2 : (frC f (.slice da f.d.length dc) vr)[2]? = some (.int .u64 (f.a : Int)) := rfl
 have e6 : (frC f (.slice da f.d.length dc) vr)[6]? = some (.slice da f.d.length dc) := rfl
 have hai : (f.a : Int) ≤ 4611686018427387903 := by unfold topN at ha; omega
 unfold frV at *
 clear hv hM ha
 generalize frC f (.slice da f.d.length dc) vr = C at *
 generalize f.d.length = n at *
 generalize f.a = m at *
 by_cases hn : (n : Int) ≤ 1200
 ·have hd : decide (n ≤ 1200) = true := by simpa using (by omega : n ≤ 1200)
  rw [hd] at HL ⊢
  have hw1 : IntKind.u64.wrap (n : Int) = n := IntWalk.u64_in _ (by omega)
  clear hd
  go_enter Tryz.func121, Tryz.ntmps121
  go_wp2_with (first
   | ((with_reducible refine wpList_load_v 52 (.tmp 1) ?_ ?_ (.pointer (some ⟨w.heap.size, 0, none⟩)) (.agg C) ?_ (HW.out _ rfl) ?_); (iterate 3 exact rfl))
   | (refine (HL.out).mono ?_; rintro e w1 ⟨rfl, hM1⟩; have g2 := hM1.cellAt (show (w.alloc (.cells C 52)).cell? ⟨w.heap.size, 2, none⟩ = _ from (by simpa using e2)) (fun h => h); have g6 := hM1.cellAt (show (w.alloc (.cells C 52)).cell? ⟨w.heap.size, 6, none⟩ = _ from (by simpa using e6)) (fun h => h); have HM1 := Lib.hid hM1; clear hM1)
   | fail)
  all_goals go_ret
  all_goals refine ⟨ret_bool ?_, HMM.out.trans HM1.out⟩
  all_goals (unfold topN; rw [Bool.eq_iff_iff]; simp_all <;> omega)
 ·have hd : decide (n ≤ 1200) = false := by simpa using (by omega : 1200 < n)
  rw [hd] at HL ⊢
  clear hd
  go_enter Tryz.func121, Tryz.ntmps121
  go_wp2_with (first
   | ((with_reducible refine wpList_load_v 52 (.tmp 1) ?_ ?_ (.pointer (some ⟨w.heap.size, 0, none⟩)) (.agg C) ?_ (HW.out _ rfl) ?_); (iterate 3 exact rfl))
   | (refine (HL.out).mono ?_; rintro e w1 ⟨rfl, hM1⟩)
   | fail)
  all_goals go_ret
  all_goals exact ⟨rfl, HMM.out.trans hM1⟩
set_option maxHeartbeats 1000000 in
set_option maxRecDepth 10000 in
theorem ok_tokn {w : World} {f : Fr} {vd vr : Value} (hv : FrV w f vd vr) : Calls Tryz.prog 124 #[frV f vd vr] w fun e w' => e = .returned (.bool (decide (f.d.length ≤ 1200) && decide (1 ≤ f.d.length))) ∧ Mod (fun _ => False) w w' := by
 have hdl := hv.dl
 have hM := (Mod.refl (fun _ => False) w).alloc (.cells (frC f vd vr) 52)
 have HL := Lib.hid (ok_long (hv.kept hM))
 have HW := Lib.hid (loadWhole w f vd vr hv.t)
 have HMM := Lib.hid hM
 obtain ⟨da, dc, rfl, _⟩ := byts_val hv.d
 have e6 : (frC f (.slice da f.d.length dc) vr)[6]? = some (.slice da f.d.length dc) := rfl
 unfold frV at *
 clear hv hM
 generalize frC f (.slice da f.d.length dc) vr = C at *
 generalize f.d.length = n at *
 by_cases hn : (n : Int) ≤ 1200
 ·have hd : decide (n ≤ 1200) = true := by simpa using (by omega : n ≤ 1200)
  rw [hd] at HL ⊢
  clear hd
  go_enter Tryz.func124, Tryz.ntmps124
  go_wp2_with (first
   | ((with_reducible refine wpList_load_v 52 (.tmp 1) ?_ ?_ (.pointer (some ⟨w.heap.size, 0, none⟩)) (.agg C) ?_ (HW.out _ rfl) ?_); (iterate 3 exact rfl))
   | (refine (HL.out).mono ?_; rintro e w1 ⟨rfl, hM1⟩; have g6 := hM1.cellAt (show (w.alloc (.cells C 52)).cell? ⟨w.heap.size, 6, none⟩ = _ from (by simpa using e6)) (fun h => h); have HM1 := Lib.hid hM1; clear hM1)
   | fail)
  all_goals go_ret
  all_goals refine ⟨ret_bool ?_, HMM.out.trans HM1.out⟩
  all_goals (rw [Bool.eq_iff_iff]; simp_all <;> omega)
 ·have hd : decide (n ≤ 1200) = false := by simpa using (by omega : 1200 < n)
  rw [hd] at HL ⊢
  clear hd
  go_enter Tryz.func124, Tryz.ntmps124
  go_wp2_with (first
   | ((with_reducible refine wpList_load_v 52 (.tmp 1) ?_ ?_ (.pointer (some ⟨w.heap.size, 0, none⟩)) (.agg C) ?_ (HW.out _ rfl) ?_); (iterate 3 exact rfl))
   | (refine (HL.out).mono ?_; rintro e w1 ⟨rfl, hM1⟩)
   | fail)
  all_goals go_ret
  all_goals exact ⟨rfl, HMM.out.trans hM1⟩
set_option maxHeartbeats 1000000 in
set_option maxRecDepth 10000 in
theorem ok_close {w : World} {f : Fr} {vd vr : Value} (hv : FrV w f vd vr) : Calls Tryz.prog 139 #[frV f vd vr] w fun e w' => e = .returned (.bool (decide (f.d.length ≤ 1200) && (!f.fl || decide (f.a = 0)))) ∧ Mod (fun _ => False) w w' := by
 have hM := (Mod.refl (fun _ => False) w).alloc (.cells (frC f vd vr) 52)
 have HL := Lib.hid (ok_long (hv.kept hM))
 have HW := Lib.hid (loadWhole w f vd vr hv.t)
 have HMM := Lib.hid hM
 have e2 : (frC f vd vr)[2]? = some (.int .u64 (f.a : Int)) := rfl
 have e5 : (frC f vd vr)[5]? = some (.bool f.fl) := rfl
 unfold frV at *
 clear hv hM
 generalize frC f vd vr = C at *
 generalize f.a = m at *
 generalize f.fl = b at *
 cases hn : decide (f.d.length ≤ 1200)
 ·rw [hn] at HL
  clear hn
  go_enter Tryz.func139, Tryz.ntmps139
  go_wp2_with (first
   | ((with_reducible refine wpList_load_v 52 (.tmp 1) ?_ ?_ (.pointer (some ⟨w.heap.size, 0, none⟩)) (.agg C) ?_ (HW.out _ rfl) ?_); (iterate 3 exact rfl))
   | (refine (HL.out).mono ?_; rintro e w1 ⟨rfl, hM1⟩)
   | fail)
  all_goals go_ret
  all_goals exact ⟨rfl, HMM.out.trans hM1⟩
 ·rw [hn] at HL
  clear hn
  cases b
  all_goals
   go_enter Tryz.func139, Tryz.ntmps139
   go_wp2_with (first
    | ((with_reducible refine wpList_load_v 52 (.tmp 1) ?_ ?_ (.pointer (some ⟨w.heap.size, 0, none⟩)) (.agg C) ?_ (HW.out _ rfl) ?_); (iterate 3 exact rfl))
    | (refine (HL.out).mono ?_; rintro e w1 ⟨rfl, hM1⟩; have g5 := hM1.cellAt (show (w.alloc (.cells C 52)).cell? ⟨w.heap.size, 5, none⟩ = _ from (by simpa using e5)) (fun h => h); have g2 := hM1.cellAt (show (w.alloc (.cells C 52)).cell? ⟨w.heap.size, 2, none⟩ = _ from (by simpa using e2)) (fun h => h); have HM1 := Lib.hid hM1; clear hM1)
    | fail)
  all_goals go_ret
  all_goals refine ⟨ret_bool ?_, HMM.out.trans HM1.out⟩
  all_goals (rw [Bool.eq_iff_iff]; simp_all <;> omega)
set_option maxRecDepth 10000 in
theorem ok_cid {w : World} {f : Fr} {vd vr : Value} (hv : FrV w f vd vr) : Calls Tryz.prog 131 #[frV f vd vr] w fun e w' => e = .returned (.bool (decide (f.a ≤ f.id) && decide (1 ≤ f.d.length) && decide (f.d.length ≤ 20))) ∧ Mod (fun _ => False) w w' := by
 have hdl := hv.dl
 obtain ⟨da, dc, rfl, _⟩ := byts_val hv.d
 have e1 : (frC f (.slice da f.d.length dc) vr)[1]? = some (.int .u64 (f.id : Int)) := rfl
 have e2 : (frC f (.slice da f.d.length dc) vr)[2]? = some (.int .u64 (f.a : Int)) := rfl
 have e6 : (frC f (.slice da f.d.length dc) vr)[6]? = some (.slice da f.d.length dc) := rfl
 unfold frV
 clear hv
 generalize frC f (.slice da f.d.length dc) vr = C at *
 generalize f.d.length = n at *
 generalize f.a = m at *
 generalize f.id = i at *
 go_enter Tryz.func131, Tryz.ntmps131
 go_wp2
 all_goals go_ret
 all_goals refine ⟨ret_bool ?_, (Mod.refl _ _).alloc _⟩
 all_goals (rw [Bool.eq_iff_iff]; simp_all <;> omega)
end Go.Proofs.YtolgeghdkoodnaaGreatDoor
set_option maxRecDepth 100000
namespace Go.Proofs.YtolgeghdkoodnaaGreatDoor
open Go.RowKit
def okR (o : Option Nat) (x : Nat × Nat) : Prop := x.1 ≤ x.2 ∧ x.2 ≤ topN ∧ ∀ p, o = some p → 2 ≤ p ∧ x.2 ≤ p - 2
def prevOf (o : Option Nat) (l : List (Nat × Nat)) (i : Nat) : Option Nat := if i = 0 then o else (l[i - 1]?).map (·.1)
theorem rngB_iff : ∀ (l : List (Nat × Nat)) (o : Option Nat), rngB o l = true ↔ ∀ i x, l[i]? = some x → okR (prevOf o l i) x
 | [], o => by
  cases o <;> simp [rngB]
 | y :: l, o => by
  have hc : rngB o (y :: l) = true ↔ okR o y ∧ rngB (some y.1) l = true := by
   cases o with
   | none => simp [rngB, okR, and_assoc]
   | some p => simp [rngB, okR, and_assoc]
  rw [hc, rngB_iff l (some y.1)]
  constructor
  ·rintro ⟨h1, h2⟩ i x hx
   cases i with
   | zero => simp at hx; subst hx; simpa [prevOf] using h1
   | succ i =>
    have := h2 i x (by simpa using hx)
    cases i with
    | zero => simpa [prevOf] using this
    | succ i => simpa [prevOf] using this
  ·intro h
   refine ⟨by simpa [prevOf] using h 0 y rfl, fun i x hx => ?_⟩
   have := h (i + 1) x (by simpa using hx)
   cases i with
   | zero => simpa [prevOf] using this
   | succ i => simpa [prevOf] using this
theorem rngB_bad {l : List (Nat × Nat)} {k : Nat} {x : Nat × Nat} (hx : l[k]? = some x) (h : ¬ okR (prevOf none l k) x) : rangesB l = false := by
 cases hb : rngB none l with
 | false => simp [rangesB, hb]
 | true => exact absurd ((rngB_iff l none).1 hb k x hx) h
def seenR (l : List (Nat × Nat)) (k : Nat) : Prop := ∀ i x, i < k → l[i]? = some x → okR (prevOf none l i) x
theorem seenR_succ {l : List (Nat × Nat)} {k : Nat} {x : Nat × Nat} (h : seenR l k) (hx : l[k]? = some x) (hk : okR (prevOf none l k) x) : seenR l (k + 1) := by
 intro i y hi hy
 by_cases hik : i < k
 ·exact h i y hik hy
 ·obtain rfl : i = k := by omega
  rw [hx] at hy
  obtain rfl := Option.some.inj hy
  exact hk
theorem okR_head {l : List (Nat × Nat)} {x : Nat × Nat} (h1 : (x.1 : Int) ≤ x.2) (h2 : (x.2 : Int) ≤ 4611686018427387903) : okR (prevOf none l 0) x := ⟨by omega, by unfold topN; omega, fun p hp => by simp [prevOf] at hp⟩
theorem okR_next {l : List (Nat × Nat)} {x p : Nat × Nat} {j : Nat} (hp : l[j]? = some p) (h1 : (x.1 : Int) ≤ x.2) (h2 : (x.2 : Int) ≤ 4611686018427387903) (h3 : (2 : Int) ≤ p.1) (h4 : (x.2 : Int) ≤ (p.1 : Int) - 2) : okR (prevOf none l (j + 1)) x := by
 refine ⟨by omega, by unfold topN; omega, fun q hq => ?_⟩
 simp [prevOf, hp] at hq
 omega
theorem okR_bad1 {o : Option Nat} {x : Nat × Nat} (h : (x.2 : Int) < x.1) : ¬ okR o x := fun h' => by have := h'.1; omega
theorem okR_bad2 {o : Option Nat} {x : Nat × Nat} (h : (4611686018427387903 : Int) < x.2) : ¬ okR o x := fun h' => by have := h'.2.1; unfold topN at this; omega
theorem okR_bad3 {l : List (Nat × Nat)} {x p : Nat × Nat} {j : Nat} (hp : l[j]? = some p) (h : (p.1 : Int) < 2 ∨ (p.1 : Int) - 2 < x.2) : ¬ okR (prevOf none l (j + 1)) x := fun h' => by
 have := h'.2.2 p.1 (by simp [prevOf, hp])
 omega
def V64 (p : Int) : Prop := p ≤ 18446744073709551615
theorem u64_sub2 {p : Int} (h : 2 ≤ p) (h' : V64 p) : IntKind.u64.wrap (p - 2) = p - 2 := IntWalk.u64_in _ (by unfold V64 at h'; omega)
set_option maxHeartbeats 8000000 in
set_option maxRecDepth 10000 in
theorem ranges_any {w : World} {f : Fr} {vd vr : Value} (hv : FrV w f vd vr) (hn : (f.rs.length : Int) ≤ 100000) (hU : ∀ x ∈ f.rs, x.1 ≤ 18446744073709551615) :
  Calls Tryz.prog 111 #[frV f vd vr] w fun e w' => e = .returned (.bool (rangesB f.rs)) ∧ Mod (fun _ => False) w w' := by
 have HV := Lib.hid hv.r
 have HUU := Lib.hid hU
 obtain ⟨ra, rc, rfl, hcap, _⟩ := rg_val hv.r
 have hB := Blk.new w (frC f vd (.slice ra f.rs.length rc)) 52
 have e7 : (frC f vd (.slice ra f.rs.length rc))[7]? = some (.slice ra f.rs.length rc) := rfl
 have HB7 : Hid (∀ X, Mod (fun _ => False) (w.alloc (.cells (frC f vd (.slice ra f.rs.length rc)) 52)) X → X.cell? ⟨w.heap.size, 7, none⟩ = some (.slice ra f.rs.length rc)) := fun X hX => hX.cellAt (hB.cellAt 7 e7) (fun h => h)
 unfold frV
 obtain ⟨n, hnn⟩ : ∃ n, n = f.rs.length := ⟨_, rfl⟩
 rw [← hnn] at hn hcap HB7 e7 ⊢
 have HN := Lib.hid hnn
 have hnc : (n : Int) ≤ rc := by omega
 generalize frC f vd (.slice ra n rc) = C at *
 generalize f.rs = l at *
 obtain ⟨R, hR⟩ : ∃ R, R = rangesB l := ⟨_, rfl⟩
 rw [← hR]
 have HRR := Lib.hid hR
 clear hv hcap hnn hR hB hU
 go_enter Tryz.func111, Tryz.ntmps111
 go_wp2
 go_loopw [8] (fun s8 wr => ∃ k : Nat, k ≤ n ∧ s8 = .int .i64 k ∧ Hid (Mod (fun _ => False) (w.alloc (.cells C 52)) wr) ∧ Hid (seenR l k)) (fun s8 _ => n - (intOf s8).toNat)
 case atStart => exact ⟨0, Nat.zero_le _, rfl, Mod.refl _ _, fun i s hi _ => by omega⟩
 case round =>
  clear e7
  obtain ⟨k, hk, rfl, HMr, HJ⟩ := hrel
  have b7 := HB7.out _ HMr.out
  by_cases hkn : (k : Int) < n
  ·have hkl : k < l.length := by have := HN.out; omega
   have hs : l[k]? = some l[k] := List.getElem?_eq_getElem hkl
   generalize l[k] = s at hs
   obtain ⟨b, off, cp, hv, _, _, hcs⟩ := rg_addr HV.out (by rintro rfl; simp at hkl)
   simp only [Value.slice.injEq] at hv
   obtain ⟨rfl, _, rfl⟩ := hv
   obtain ⟨g0, g1⟩ := hcs k s hs
   have g0' := ((((Mod.refl (fun _ => False) w).alloc _).trans HMr.out)).cellAt g0 (fun h => h)
   have g1' := ((((Mod.refl (fun _ => False) w).alloc _).trans HMr.out)).cellAt g1 (fun h => h)
   have HS := Lib.hid hs
   have HCS := Lib.hid hcs
   clear g0 g1 hs hcs hkl
   obtain ⟨lo, hlo⟩ : ∃ lo : Int, (s.1 : Int) = lo := ⟨_, rfl⟩
   obtain ⟨hi, hhi⟩ : ∃ hi : Int, (s.2 : Int) = hi := ⟨_, rfl⟩
   rw [hlo] at g0'
   rw [hhi] at g1'
   have HLO := Lib.hid hlo
   have HHI := Lib.hid hhi
   clear hlo hhi
   have hk18 : (k : Int) ≤ 100000 := by omega
   go_wp2_with ((with_reducible refine wpList_store_blk ?_ 97 (.tmp 4) (.tmp 12) ?_ wr.heap.size ?_ #[.int .u64 0, .int .u64 0] #[.int .u64 lo, .int .u64 hi] ?_ 97 (Blk.new _ _ _) (sizeRg _ _) ?_ ?_ ?_); (iterate 5 exact rfl); (· intro v hv; simp at hv; rcases hv with rfl | rfl <;> rfl); intro wx hBx hMx; have HMx := Lib.hid (((Mod.refl (fun _ => False) wr).alloc _).trans' hMx (fun i hi e => by omega)); have x0 : wx.cell? ⟨wr.heap.size, 0, none⟩ = some (.int .u64 lo) := hBx.cellAt 0 rfl; have x1 : wx.cell? ⟨wr.heap.size, 1, none⟩ = some (.int .u64 hi) := hBx.cellAt 1 rfl; clear hBx hMx)
   go_frame
   have HM2 := Lib.hid (((Mod.refl (fun _ => False) w).alloc _).trans (HMr.out.trans HMx.out))
   have b7' : wx.cell? ⟨w.heap.size, 7, none⟩ = some (.slice (some ⟨b, off, none⟩) n rc) := HMx.out.cellAt b7 (fun h => h)
   clear g0' g1' b7
   by_cases h1 : hi < lo
   ·have d1 : decide (hi < lo) = true := decide_eq_true h1
    go_quiet (fail)
    go_wp2
    go_ret
    refine ⟨ret_bool ?_, HM2.out.drewN _⟩
    rw [HRR.out]
    exact (rngB_bad HS.out (okR_bad1 (by rw [HLO.out, HHI.out]; exact h1))).symm
   ·have d1 : decide (hi < lo) = false := decide_eq_false h1
    by_cases h2 : 4611686018427387903 < hi
    ·have d2 : decide (4611686018427387903 < hi) = true := decide_eq_true h2
     go_quiet (fail)
     go_wp2
     go_ret
     refine ⟨ret_bool ?_, HM2.out.drewN _⟩
     rw [HRR.out]
     exact (rngB_bad HS.out (okR_bad2 (by rw [HHI.out]; exact h2))).symm
    ·have d2 : decide (4611686018427387903 < hi) = false := decide_eq_false h2
     by_cases hk0 : k = 0
     ·have d3 : decide (0 < k) = false := decide_eq_false (by omega)
      have d3' : decide ((0 : Int) < (k : Int)) = false := decide_eq_false (by omega)
      have HK0 := Lib.hid hk0
      clear hk0
      go_quiet (fail)
      go_wp2
      go_roundw
      case rel => exact ⟨k + 1, by omega, by go_num, (HMr.out.trans HMx.out).drewN _, seenR_succ HJ.out HS.out (by have e := HK0.out; subst e; exact okR_head (by rw [HLO.out, HHI.out]; omega) (by rw [HHI.out]; omega))⟩
      case measure => simp [intOf]; omega
     ·have d3 : decide (0 < k) = true := decide_eq_true (by omega)
      have d3' : decide ((0 : Int) < (k : Int)) = true := decide_eq_true (by omega)
      obtain ⟨j, hj⟩ : ∃ j, k = j + 1 := ⟨k - 1, by omega⟩
      have hjl : j < l.length := by have := HN.out; omega
      have hp : l[j]? = some l[j] := List.getElem?_eq_getElem hjl
      have hpm := HUU.out _ (List.mem_of_getElem? hp)
      generalize l[j] = p at hp hpm
      obtain ⟨q0, _⟩ := HCS.out j p hp
      have q0' : wx.cell? ⟨b, off + j * 2, none⟩ = some (.int .u64 (p.1 : Int)) := HM2.out.cellAt q0 (fun h => h)
      have hjn : (j : Int) < n := by omega
      have hj0 : (0 : Int) ≤ j := by omega
      have hw : IntKind.i64.wrap ((k : Int) - 1) = (j : Int) := by rw [hj]; exact (IntWalk.i64_in _ (by omega)).trans (by omega)
      obtain ⟨pl, hpl⟩ : ∃ pl : Int, (p.1 : Int) = pl := ⟨_, rfl⟩
      have hpm' : V64 pl := by unfold V64; rw [← hpl]; omega
      rw [hpl] at q0'
      have HPL := Lib.hid hpl
      have HP := Lib.hid hp
      have HJK := Lib.hid hj
      clear q0 hpl hp hjl hpm hk0 hj
      by_cases h4 : pl < 2
      ·have d4 : decide (pl < 2) = true := decide_eq_true h4
       go_quiet (fail)
       go_wp2
       go_ret
       refine ⟨ret_bool ?_, HM2.out.drewN _⟩
       rw [HRR.out]
       exact (rngB_bad HS.out (by have e := HJK.out; subst e; exact okR_bad3 HP.out (.inl (by rw [HPL.out]; exact h4)))).symm
      ·have d4 : decide (pl < 2) = false := decide_eq_false h4
       have hw2 : IntKind.u64.wrap (pl - 2) = pl - 2 := u64_sub2 (by omega) hpm'
       by_cases h5 : pl - 2 < hi
       ·have d5 : decide (pl - 2 < hi) = true := decide_eq_true h5
        go_quiet (fail)
        go_wp2
        go_ret
        refine ⟨ret_bool ?_, HM2.out.drewN _⟩
        rw [HRR.out]
        exact (rngB_bad HS.out (by have e := HJK.out; subst e; exact okR_bad3 HP.out (.inr (by rw [HPL.out, HHI.out]; exact h5)))).symm
       ·have d5 : decide (pl - 2 < hi) = false := decide_eq_false h5
        go_quiet (fail)
        go_wp2
        go_roundw
        case rel => exact ⟨k + 1, by omega, by go_num, (HMr.out.trans HMx.out).drewN _, seenR_succ HJ.out HS.out (by have e := HJK.out; subst e; exact okR_next HP.out (by rw [HLO.out, HHI.out]; omega) (by rw [HHI.out]; omega) (by rw [HPL.out]; omega) (by rw [HPL.out, HHI.out]; omega))⟩
        case measure => simp [intOf]; omega
  ·have hkn' : k = n := by omega
   have hall : Hid (rngB none l = true) := (rngB_iff l none).2 (fun i x hx => HJ.out i x (by have := (List.getElem?_eq_some_iff.1 hx).1; have := HN.out; omega) hx)
   go_wp2
   all_goals go_ret
   all_goals refine ⟨ret_bool ?_, ((Mod.refl _ w).alloc _).trans HMr.out⟩
   all_goals
    rw [HRR.out]
    unfold rangesB
    rw [hall.out, ← HN.out, Bool.eq_iff_iff]
    simp_all <;> omega
end Go.Proofs.YtolgeghdkoodnaaGreatDoor
set_option maxRecDepth 100000
namespace Go.Proofs.YtolgeghdkoodnaaGreatDoor
theorem takeH {P : Program} {ops : Array Oper} {Q : Exit → Act → World → Prop} {md : Region.Mode} {S : World → Prop} {i : Nat} {oi : Oper} {v : Value} {fuel : Nat} {listed : Array Bool} {a : Act} {w : World} (d : Option Tmp) (hi : ops[i]? = some oi) (hd : oi.dst = d)
  (hs : Region.noSelect ops = true) (hf : Region.free md ops listed i = true) (hr : (Region.ready md ops listed).contains i = true)
  (hQ : ∀ c a w, Q (.panic c) (a.put d v) w → Q (.panic c) a w) (hy : YieldsIf P ops S oi v a) (hS : S w)
  (h : wpAnyH P md ops Q S fuel (listed.setIfInBounds i true) (a.put d v) w) : wpAnyH P md ops Q S (fuel + 1) listed a w := by
 subst hd
 exact wpAnyH_take hi hs hf hr hQ hy hS h
theorem tk {P : Program} {ops : Array Oper} {Q : Exit → Act → World → Prop} {md : Region.Mode} {S : World → Prop} {oi : Oper} {fuel : Nat} {listed : Array Bool} {a : Act} {w : World} (i : Nat) (v : Value) (d : Option Tmp) (hi : ops[i]? = some oi) (hd : oi.dst = d) (hk : (Region.noSelect ops && Region.free md ops listed i && (Region.ready md ops listed).contains i) = true) (hQ : ∀ c a w, Q (.panic c) (a.put d v) w → Q (.panic c) a w) (hy : YieldsIf P ops S oi v a) (hS : S w) (h : wpAnyH P md ops Q S fuel (listed.setIfInBounds i true) (a.put d v) w) : wpAnyH P md ops Q S (fuel + 1) listed a w := by
 rw [Bool.and_eq_true, Bool.and_eq_true] at hk
 exact takeH d hi hd hk.1.1 hk.1.2 hk.2 hQ hy hS h
theorem arH {P : Program} {ops : Array Oper} {Q : Exit → Act → World → Prop} {md : Region.Mode} {S : World → Prop} {fuel : Nat} {listed : Array Bool} {a : Act} {w : World} {i : Nat} {o : Oper} (ho : ops[i]? = some o) (h : ∀ K' : Act → World → Prop, Shut (∀ a w, S w → (S w → wpAnyH P md ops Q S fuel (listed.setIfInBounds i true) a w) → K' a w) → if Region.wanted o (yielded ops a.tmps) = true then Oper.wp P o a w K' Q else K' (a.put o.dst undef) w) : AllReadyH P md ops Q S fuel listed a w [i] := AllReadyH.cons ho h AllReadyH.nil
end Go.Proofs.YtolgeghdkoodnaaGreatDoor
set_option maxRecDepth 100000
namespace Go.Proofs.YtolgeghdkoodnaaGreatDoor
open Go.RowKit
set_option maxRecDepth 10000 in
theorem conv_any {w : World} {v : Value} {l : List UInt8} (h : Byts w v l) : (convert 42 9 v).run Tryz.prog w = .ok (.string ⟨l.toArray⟩) w := by
 by_cases h0 : l = []
 ·subst h0
  obtain ⟨a, cap, rfl, _⟩ := byts_val h
  cases a with
  | none => exact run_convert_bytes_nil (P := Tryz.prog) w 42 5 Tryz.underlying42 Tryz.underlying5 _ _ 9 Tryz.underlying9
  | some ad =>
   rw [run_convert_bytes_string (P := Tryz.prog) w 42 9 5 _ _ _ Tryz.underlying42 Tryz.underlying5 Tryz.underlying9]
   exact run_bytesToString w ad 0 cap [] (by simp [loadCells, loadCellsFrom, Sem.run_pure])
 ·obtain ⟨b, off, cap, rfl, h1, h2, h3⟩ := byts_addr h h0
  have := run_convert_bytes_arg (P := Tryz.prog) w 42 5 Tryz.underlying42 Tryz.underlying5 b off l.length cap (l.map fun x => (x.toNat : Int)) (by simp) (fun i hi => by
   have hx := h3 i _ (List.getElem?_eq_getElem hi)
   rw [hx]
   simp [List.getD, hi, bv]) 9 Tryz.underlying9
  rw [this]
  congr 2
  unfold strOfNums
  congr 1
  apply Array.toList_inj.1
  simp [List.map_map, Function.comp_def]
theorem toList_mk (l : List UInt8) : (ByteArray.mk l.toArray).toList = l := by rw [Go.ByteArray.toList_eq]
set_option maxRecDepth 10000 in
theorem eq_any {w : World} {a b : Value} {la lb : List UInt8} (ha : Byts w a la) (hb : Byts w b lb) :
  Calls Tryz.prog 165 #[a, b] w fun e w' => w = w' ∧ e = .returned (.bool (decide (la = lb))) := by
 have ca := conv_any ha
 have cb := conv_any hb
 obtain ⟨sa, hsa, hsa'⟩ : ∃ sa : ByteArray, sa = ⟨la.toArray⟩ ∧ sa.toList = la := ⟨_, rfl, toList_mk la⟩
 obtain ⟨sb, hsb, hsb'⟩ : ∃ sb : ByteArray, sb = ⟨lb.toArray⟩ ∧ sb.toList = lb := ⟨_, rfl, toList_mk lb⟩
 obtain ⟨aa, ac, rfl, _⟩ := byts_val ha
 obtain ⟨ba, bc, rfl, _⟩ := byts_val hb
 rw [← hsa] at ca
 rw [← hsb] at cb
 have HA := Lib.hid hsa'
 have HB := Lib.hid hsb'
 clear hsa hsb hsa' hsb' ha hb
 generalize la.length = na at *
 generalize lb.length = nb at *
 go_enter Tryz.func165, Tryz.ntmps165
 go_wp2
 go_ret
 refine ⟨rfl, ret_bool ?_⟩
 rw [HA.out, HB.out, Bool.eq_iff_iff]
 simp
end Go.Proofs.YtolgeghdkoodnaaGreatDoor
