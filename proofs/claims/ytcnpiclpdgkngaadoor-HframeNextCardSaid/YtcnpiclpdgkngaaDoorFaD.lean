/- May settings be: the program's. -/
import Derived.Test.YtcnpiclpdgkngaaDoorFaC
namespace Go.Proofs.YtcnpiclpdgkngaaDoor
open Go.RowKit

theorem size49 (a b : Value) : (Tryd.prog.info? 49).map (·.size) = some (#[a, b] : Array Value).size := by show _ = some 2; kernel_rfl
theorem okSet_no {s : Nat × Nat} (h : (s.1 : Int) = 0 ∨ ((2 : Int) ≤ s.1 ∧ (s.1 : Int) ≤ 5) ∨ (topN : Int) < s.1 ∨ (topN : Int) < s.2) : okSet s = false := by
  cases hb : okSet s
  · rfl
  · exfalso
    unfold okSet at hb
    simp only [Bool.and_eq_true, Bool.not_eq_true', Bool.and_eq_false_iff, decide_eq_true_eq, decide_eq_false_iff_not] at hb
    omega
theorem okSet_yes {s : Nat × Nat} (h0 : ¬ (s.1 : Int) = 0) (h2 : ¬ ((2 : Int) ≤ s.1 ∧ (s.1 : Int) ≤ 5)) (h3 : (s.1 : Int) ≤ topN) (h4 : (s.2 : Int) ≤ topN) : okSet s = true := by
  unfold okSet
  simp only [Bool.and_eq_true, Bool.not_eq_true', Bool.and_eq_false_iff, decide_eq_true_eq, decide_eq_false_iff_not]
  omega
theorem goodTo_succ {l : List (Nat × Nat)} {k : Nat} {s : Nat × Nat} (h : goodTo l k) (hs : l[k]? = some s) (h1 : okSet s = true) (h2 : ((l.take k).any fun t => t.1 == s.1) = false) : goodTo l (k + 1) := by
  intro i t hi ht
  by_cases hik : i < k
  · exact h i t hik ht
  · obtain rfl : i = k := by omega
    rw [hs] at ht
    obtain rfl := Option.some.inj ht
    exact ⟨h1, h2⟩
set_option maxHeartbeats 4000000 in
set_option maxRecDepth 10000 in
theorem settings_any {w : World} {v : Value} {l : List (Nat × Nat)} (hv : SetV w v l) (hn : (l.length : Int) ≤ 100000) :
    Calls Tryd.prog 26 #[v] w fun e w' => e = .returned (.bool (settingsB l)) ∧ Mod (fun _ => False) w w' := by
  have HV := Lib.hid hv
  obtain ⟨a, cap, rfl, hcap, _⟩ := set_val hv
  obtain ⟨n, hnn⟩ : ∃ n, n = l.length := ⟨_, rfl⟩
  rw [← hnn] at hn hcap ⊢
  have HN := Lib.hid hnn
  have hnc : (n : Int) ≤ cap := by omega
  obtain ⟨R, hR⟩ : ∃ R, R = settingsB l := ⟨_, rfl⟩
  rw [← hR]
  have HRR := Lib.hid hR
  clear hv hcap hnn hR
  go_enter Tryd.func26, Tryd.ntmps26
  go_wp2
  go_loopw [7] (fun s7 wr => ∃ k : Nat, k ≤ n ∧ s7 = .int .i64 k ∧ Mod (fun _ => False) w wr ∧ Hid (goodTo l k)) (fun s7 _ => n - (intOf s7).toNat)
  case atStart => exact ⟨0, Nat.zero_le _, rfl, Mod.refl _ _, fun i s hi _ => by omega⟩
  case round =>
    obtain ⟨k, hk, rfl, hM, HJ⟩ := hrel
    have HMr := Lib.hid hM
    clear hM
    by_cases hkn : (k : Int) < n
    · have hkl : k < l.length := by have := HN.out; omega
      have hs : l[k]? = some l[k] := List.getElem?_eq_getElem hkl
      generalize l[k] = s at hs
      obtain ⟨b, off, cp, hv, _, _, hcs⟩ := set_addr HV.out (by rintro rfl; simp at hkl)
      simp only [Value.slice.injEq] at hv
      obtain ⟨rfl, _, rfl⟩ := hv
      obtain ⟨g0, g1⟩ := hcs k s hs
      have g0' := HMr.out.cellAt g0 (fun h => h)
      have g1' := HMr.out.cellAt g1 (fun h => h)
      have HS := Lib.hid hs
      clear g0 g1 hs hcs hkl
      have htk : ∀ (w' : World), Mod (fun _ => False) w w' → SetV w' (.slice (some ⟨b, off, none⟩) k cap) (l.take k) := fun w' hM => set_take (by rw [← HN.out] at HV; exact HV.out.kept hM) HN.out hk
      have HTK := Lib.hid htk
      have hkc : (k : Int) ≤ cap := by omega
      have HLK : Hid (((l.take k).length : Int) ≤ 100000) := by show _ ≤ _; rw [List.length_take]; omega
      clear htk
      go_wp2_with ((with_reducible refine wpList_store_blk ?_ 49 (.tmp 4) (.tmp 11) ?_ wr.heap.size ?_ #[.int .u64 0, .int .u64 0] #[.int .u64 (s.1 : Int), .int .u64 (s.2 : Int)] ?_ 49 (Blk.new _ _ _) (size49 _ _) ?_ ?_ ?_); (· exact rfl); (· exact rfl); (· exact rfl); (· exact rfl); (· exact rfl); (· intro v hv; simp at hv; rcases hv with rfl | rfl <;> rfl); intro wx hBx hMx; have HMx := Lib.hid (HMr.out.trans (((Mod.refl (fun _ => False) wr).alloc _).trans' hMx (fun i hi e => by omega))); have x0 : wx.cell? ⟨wr.heap.size, 0, none⟩ = some (.int .u64 (s.1 : Int)) := hBx.cellAt 0 rfl; have x1 : wx.cell? ⟨wr.heap.size, 1, none⟩ = some (.int .u64 (s.2 : Int)) := hBx.cellAt 1 rfl; clear hBx hMx)
      all_goals first
        | (go_ret
           refine ⟨ret_bool ?_, HMx.out⟩
           rw [HRR.out]
           exact (settings_bad HS.out (.inl (okSet_no (by unfold topN; omega)))).symm)
        | (have hok : okSet s = true := okSet_yes (by omega) (by omega) (by unfold topN; omega) (by unfold topN; omega)
           have HOK := Lib.hid hok
           clear hok
           refine (setin_any (HTK.out wx HMx.out) HLK.out _ _ x0).mono ?_
           rintro e w2 ⟨rfl, hM2⟩
           cases hany : ((l.take k).any fun t => t.1 == s.1)
           · have HANY := Lib.hid hany
             clear hany
             go_wp2_with fail
             all_goals first
               | (exfalso
                  rename_i hh
                  simp only [beq_iff_eq] at hh
                  omega)
               | (go_roundw
                  case rel => exact ⟨k + 1, by omega, by go_num, HMx.out.trans hM2, goodTo_succ HJ.out HS.out HOK.out HANY.out⟩
                  case measure => simp [intOf]; omega)
           · have HANY := Lib.hid hany
             clear hany
             go_wp2_with fail
             go_ret
             refine ⟨ret_bool ?_, HMx.out.trans hM2⟩
             rw [HRR.out]
             exact (settings_bad HS.out (.inr HANY.out)).symm)
    · have hkn' : k = n := by omega
      have hall := settings_all l (fun i s hs => HJ.out i s (by have := (List.getElem?_eq_some_iff.1 hs).1; have := HN.out; omega) hs)
      go_wp2
      go_ret
      refine ⟨ret_bool ?_, HMr.out⟩
      rw [HRR.out]
      unfold settingsB
      rw [hall.1, hall.2, ← HN.out, Bool.eq_iff_iff]
      simp
      omega
end Go.Proofs.YtcnpiclpdgkngaaDoor
