/- May an Ack's ranges be. -/
import Derived.Test.YteegonadodmeeaaDoorGaC
namespace Go.Proofs.YteegonadodmeeaaDoor
open Go.RowKit

def okR (o : Option Nat) (x : Nat × Nat) : Prop := x.1 ≤ x.2 ∧ x.2 ≤ topN ∧ ∀ p, o = some p → 2 ≤ p ∧ x.2 ≤ p - 2
def prevOf (o : Option Nat) (l : List (Nat × Nat)) (i : Nat) : Option Nat := if i = 0 then o else (l[i - 1]?).map (·.1)
theorem rngB_iff : ∀ (l : List (Nat × Nat)) (o : Option Nat), rngB o l = true ↔ ∀ i x, l[i]? = some x → okR (prevOf o l i) x
  | [], o => by
    cases o <;> simp [rngB]
  | y :: l, o => by
    have hc : rngB o (y :: l) = true ↔ okR o y ∧ rngB (some y.1) l = true := by
      cases o with
      | none => simp [rngB, okR, and_assoc]
      | some p => simp [rngB, okR, and_assoc]
    rw [hc, rngB_iff l (some y.1)]
    constructor
    · rintro ⟨h1, h2⟩ i x hx
      cases i with
      | zero => simp at hx; subst hx; simpa [prevOf] using h1
      | succ i =>
        have := h2 i x (by simpa using hx)
        cases i with
        | zero => simpa [prevOf] using this
        | succ i => simpa [prevOf] using this
    · intro h
      refine ⟨by simpa [prevOf] using h 0 y rfl, fun i x hx => ?_⟩
      have := h (i + 1) x (by simpa using hx)
      cases i with
      | zero => simpa [prevOf] using this
      | succ i => simpa [prevOf] using this
theorem rngB_bad {l : List (Nat × Nat)} {k : Nat} {x : Nat × Nat} (hx : l[k]? = some x) (h : ¬ okR (prevOf none l k) x) : rangesB l = false := by
  cases hb : rngB none l with
  | false => simp [rangesB, hb]
  | true => exact absurd ((rngB_iff l none).1 hb k x hx) h
def seenR (l : List (Nat × Nat)) (k : Nat) : Prop := ∀ i x, i < k → l[i]? = some x → okR (prevOf none l i) x
theorem seenR_succ {l : List (Nat × Nat)} {k : Nat} {x : Nat × Nat} (h : seenR l k) (hx : l[k]? = some x) (hk : okR (prevOf none l k) x) : seenR l (k + 1) := by
  intro i y hi hy
  by_cases hik : i < k
  · exact h i y hik hy
  · obtain rfl : i = k := by omega
    rw [hx] at hy
    obtain rfl := Option.some.inj hy
    exact hk
theorem okR_head {l : List (Nat × Nat)} {x : Nat × Nat} (h1 : (x.1 : Int) ≤ x.2) (h2 : (x.2 : Int) ≤ 4611686018427387903) : okR (prevOf none l 0) x := ⟨by omega, by unfold topN; omega, fun p hp => by simp [prevOf] at hp⟩
theorem okR_next {l : List (Nat × Nat)} {x p : Nat × Nat} {j : Nat} (hp : l[j]? = some p) (h1 : (x.1 : Int) ≤ x.2) (h2 : (x.2 : Int) ≤ 4611686018427387903) (h3 : (2 : Int) ≤ p.1) (h4 : (x.2 : Int) ≤ (p.1 : Int) - 2) : okR (prevOf none l (j + 1)) x := by
  refine ⟨by omega, by unfold topN; omega, fun q hq => ?_⟩
  simp [prevOf, hp] at hq
  omega
theorem okR_bad1 {o : Option Nat} {x : Nat × Nat} (h : (x.2 : Int) < x.1) : ¬ okR o x := fun h' => by have := h'.1; omega
theorem okR_bad2 {o : Option Nat} {x : Nat × Nat} (h : (4611686018427387903 : Int) < x.2) : ¬ okR o x := fun h' => by have := h'.2.1; unfold topN at this; omega
theorem okR_bad3 {l : List (Nat × Nat)} {x p : Nat × Nat} {j : Nat} (hp : l[j]? = some p) (h : (p.1 : Int) < 2 ∨ (p.1 : Int) - 2 < x.2) : ¬ okR (prevOf none l (j + 1)) x := fun h' => by
  have := h'.2.2 p.1 (by simp [prevOf, hp])
  omega
/-- A round's end: either the answer is no, or the next one is looked at. -/
def V64 (p : Int) : Prop := p ≤ 18446744073709551615
theorem u64_sub2 {p : Int} (h : 2 ≤ p) (h' : V64 p) : IntKind.u64.wrap (p - 2) = p - 2 := IntWalk.u64_in _ (by unfold V64 at h'; omega)
set_option maxHeartbeats 8000000 in
set_option maxRecDepth 10000 in
theorem ranges_any {w : World} {f : Fr} {vd vr : Value} (hv : FrV w f vd vr) (hn : (f.rs.length : Int) ≤ 100000) (hU : ∀ x ∈ f.rs, x.1 ≤ 18446744073709551615) :
    Calls Tryd.prog 58 #[frV f vd vr] w fun e w' => e = .returned (.bool (rangesB f.rs)) ∧ Mod (fun _ => False) w w' := by
  have HV := Lib.hid hv.r
  have HUU := Lib.hid hU
  obtain ⟨ra, rc, rfl, hcap, _⟩ := rg_val hv.r
  have hB := Blk.new w (frC f vd (.slice ra f.rs.length rc)) 27
  have e7 : (frC f vd (.slice ra f.rs.length rc))[7]? = some (.slice ra f.rs.length rc) := rfl
  have HB7 : Hid (∀ X, Mod (fun _ => False) (w.alloc (.cells (frC f vd (.slice ra f.rs.length rc)) 27)) X → X.cell? ⟨w.heap.size, 7, none⟩ = some (.slice ra f.rs.length rc)) := fun X hX => hX.cellAt (hB.cellAt 7 e7) (fun h => h)
  unfold frV
  obtain ⟨n, hnn⟩ : ∃ n, n = f.rs.length := ⟨_, rfl⟩
  rw [← hnn] at hn hcap HB7 e7 ⊢
  have HN := Lib.hid hnn
  have hnc : (n : Int) ≤ rc := by omega
  generalize frC f vd (.slice ra n rc) = C at *
  generalize f.rs = l at *
  obtain ⟨R, hR⟩ : ∃ R, R = rangesB l := ⟨_, rfl⟩
  rw [← hR]
  have HRR := Lib.hid hR
  clear hv hcap hnn hR hB hU
  go_enter Tryd.func58, Tryd.ntmps58
  go_wp2
  go_loopw [8] (fun s8 wr => ∃ k : Nat, k ≤ n ∧ s8 = .int .i64 k ∧ Hid (Mod (fun _ => False) (w.alloc (.cells C 27)) wr) ∧ Hid (seenR l k)) (fun s8 _ => n - (intOf s8).toNat)
  case atStart => exact ⟨0, Nat.zero_le _, rfl, Mod.refl _ _, fun i s hi _ => by omega⟩
  case round =>
    clear e7
    obtain ⟨k, hk, rfl, HMr, HJ⟩ := hrel
    have b7 := HB7.out _ HMr.out
    by_cases hkn : (k : Int) < n
    · have hkl : k < l.length := by have := HN.out; omega
      have hs : l[k]? = some l[k] := List.getElem?_eq_getElem hkl
      generalize l[k] = s at hs
      obtain ⟨b, off, cp, hv, _, _, hcs⟩ := rg_addr HV.out (by rintro rfl; simp at hkl)
      simp only [Value.slice.injEq] at hv
      obtain ⟨rfl, _, rfl⟩ := hv
      obtain ⟨g0, g1⟩ := hcs k s hs
      have g0' := ((((Mod.refl (fun _ => False) w).alloc _).trans HMr.out)).cellAt g0 (fun h => h)
      have g1' := ((((Mod.refl (fun _ => False) w).alloc _).trans HMr.out)).cellAt g1 (fun h => h)
      have HS := Lib.hid hs
      have HCS := Lib.hid hcs
      clear g0 g1 hs hcs hkl
      obtain ⟨lo, hlo⟩ : ∃ lo : Int, (s.1 : Int) = lo := ⟨_, rfl⟩
      obtain ⟨hi, hhi⟩ : ∃ hi : Int, (s.2 : Int) = hi := ⟨_, rfl⟩
      rw [hlo] at g0'
      rw [hhi] at g1'
      have HLO := Lib.hid hlo
      have HHI := Lib.hid hhi
      clear hlo hhi
      have hk18 : (k : Int) ≤ 100000 := by omega
      go_wp2_with ((with_reducible refine wpList_store_blk ?_ 44 (.tmp 4) (.tmp 12) ?_ wr.heap.size ?_ #[.int .u64 0, .int .u64 0] #[.int .u64 lo, .int .u64 hi] ?_ 44 (Blk.new _ _ _) (sizeRg _ _) ?_ ?_ ?_); (· exact rfl); (· exact rfl); (· exact rfl); (· exact rfl); (· exact rfl); (· intro v hv; simp at hv; rcases hv with rfl | rfl <;> rfl); intro wx hBx hMx; have HMx := Lib.hid (((Mod.refl (fun _ => False) wr).alloc _).trans' hMx (fun i hi e => by omega)); have x0 : wx.cell? ⟨wr.heap.size, 0, none⟩ = some (.int .u64 lo) := hBx.cellAt 0 rfl; have x1 : wx.cell? ⟨wr.heap.size, 1, none⟩ = some (.int .u64 hi) := hBx.cellAt 1 rfl; clear hBx hMx)
      go_frame
      have HM2 := Lib.hid (((Mod.refl (fun _ => False) w).alloc _).trans (HMr.out.trans HMx.out))
      have b7' : wx.cell? ⟨w.heap.size, 7, none⟩ = some (.slice (some ⟨b, off, none⟩) n rc) := HMx.out.cellAt b7 (fun h => h)
      clear g0' g1' b7
      by_cases h1 : hi < lo
      · have d1 : decide (hi < lo) = true := decide_eq_true h1
        go_quiet (fail)
        go_wp2
        go_ret
        refine ⟨ret_bool ?_, HM2.out.drewN _⟩
        rw [HRR.out]
        exact (rngB_bad HS.out (okR_bad1 (by rw [HLO.out, HHI.out]; exact h1))).symm
      · have d1 : decide (hi < lo) = false := decide_eq_false h1
        by_cases h2 : 4611686018427387903 < hi
        · have d2 : decide (4611686018427387903 < hi) = true := decide_eq_true h2
          go_quiet (fail)
          go_wp2
          go_ret
          refine ⟨ret_bool ?_, HM2.out.drewN _⟩
          rw [HRR.out]
          exact (rngB_bad HS.out (okR_bad2 (by rw [HHI.out]; exact h2))).symm
        · have d2 : decide (4611686018427387903 < hi) = false := decide_eq_false h2
          by_cases hk0 : k = 0
          · have d3 : decide (0 < k) = false := decide_eq_false (by omega)
            have d3' : decide ((0 : Int) < (k : Int)) = false := decide_eq_false (by omega)
            have HK0 := Lib.hid hk0
            clear hk0
            go_quiet (fail)
            go_wp2
            go_roundw
            case rel => exact ⟨k + 1, by omega, by go_num, (HMr.out.trans HMx.out).drewN _, seenR_succ HJ.out HS.out (by have e := HK0.out; subst e; exact okR_head (by rw [HLO.out, HHI.out]; omega) (by rw [HHI.out]; omega))⟩
            case measure => simp [intOf]; omega
          · have d3 : decide (0 < k) = true := decide_eq_true (by omega)
            have d3' : decide ((0 : Int) < (k : Int)) = true := decide_eq_true (by omega)
            obtain ⟨j, hj⟩ : ∃ j, k = j + 1 := ⟨k - 1, by omega⟩
            have hjl : j < l.length := by have := HN.out; omega
            have hp : l[j]? = some l[j] := List.getElem?_eq_getElem hjl
            have hpm := HUU.out _ (List.mem_of_getElem? hp)
            generalize l[j] = p at hp hpm
            obtain ⟨q0, _⟩ := HCS.out j p hp
            have q0' : wx.cell? ⟨b, off + j * 2, none⟩ = some (.int .u64 (p.1 : Int)) := HM2.out.cellAt q0 (fun h => h)
            have hjn : (j : Int) < n := by omega
            have hj0 : (0 : Int) ≤ j := by omega
            have hw : IntKind.i64.wrap ((k : Int) - 1) = (j : Int) := by rw [hj]; exact (IntWalk.i64_in _ (by omega)).trans (by omega)
            obtain ⟨pl, hpl⟩ : ∃ pl : Int, (p.1 : Int) = pl := ⟨_, rfl⟩
            have hpm' : V64 pl := by unfold V64; rw [← hpl]; omega
            rw [hpl] at q0'
            have HPL := Lib.hid hpl
            have HP := Lib.hid hp
            have HJK := Lib.hid hj
            clear q0 hpl hp hjl hpm hk0 hj
            by_cases h4 : pl < 2
            · have d4 : decide (pl < 2) = true := decide_eq_true h4
              go_quiet (fail)
              go_wp2
              go_ret
              refine ⟨ret_bool ?_, HM2.out.drewN _⟩
              rw [HRR.out]
              exact (rngB_bad HS.out (by have e := HJK.out; subst e; exact okR_bad3 HP.out (.inl (by rw [HPL.out]; exact h4)))).symm
            · have d4 : decide (pl < 2) = false := decide_eq_false h4
              have hw2 : IntKind.u64.wrap (pl - 2) = pl - 2 := u64_sub2 (by omega) hpm'
              by_cases h5 : pl - 2 < hi
              · have d5 : decide (pl - 2 < hi) = true := decide_eq_true h5
                go_quiet (fail)
                go_wp2
                go_ret
                refine ⟨ret_bool ?_, HM2.out.drewN _⟩
                rw [HRR.out]
                exact (rngB_bad HS.out (by have e := HJK.out; subst e; exact okR_bad3 HP.out (.inr (by rw [HPL.out, HHI.out]; exact h5)))).symm
              · have d5 : decide (pl - 2 < hi) = false := decide_eq_false h5
                go_quiet (fail)
                go_wp2
                go_roundw
                case rel => exact ⟨k + 1, by omega, by go_num, (HMr.out.trans HMx.out).drewN _, seenR_succ HJ.out HS.out (by have e := HJK.out; subst e; exact okR_next HP.out (by rw [HLO.out, HHI.out]; omega) (by rw [HHI.out]; omega) (by rw [HPL.out]; omega) (by rw [HPL.out, HHI.out]; omega))⟩
                case measure => simp [intOf]; omega
    · have hkn' : k = n := by omega
      have hall : Hid (rngB none l = true) := (rngB_iff l none).2 (fun i x hx => HJ.out i x (by have := (List.getElem?_eq_some_iff.1 hx).1; have := HN.out; omega) hx)
      go_wp2
      all_goals go_ret
      all_goals refine ⟨ret_bool ?_, ((Mod.refl _ w).alloc _).trans HMr.out⟩
      all_goals
        rw [HRR.out]
        unfold rangesB
        rw [hall.out, ← HN.out, Bool.eq_iff_iff]
        simp_all <;> omega
end Go.Proofs.YteegonadodmeeaaDoor
