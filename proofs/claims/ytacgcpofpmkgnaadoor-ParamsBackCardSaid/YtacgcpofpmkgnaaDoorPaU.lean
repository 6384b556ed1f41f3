/- The walk of ParamsBack. (printed by genpback.py) -/
import Derived.Test.YtacgcpofpmkgnaaDoorPaT
namespace Go.Proofs.YtacgcpofpmkgnaaDoor
open Go.RowKit

theorem may_no_or {p : Pm} {k : Nat} (h : ¬ (mayB p = true ∧ k ≤ 60)) : mayB p = false ∨ (mayB p = true ∧ 60 < k) := by
  cases hm : mayB p
  · exact .inl rfl
  · right; refine ⟨rfl, ?_⟩; rw [hm] at h; simp at h; omega
set_option maxHeartbeats 8000000 in
set_option maxRecDepth 100000 in
theorem lback_any {w : World} {p : Pm} {v : Value} {l : List UInt8} {a b : Nat} (hT : Tabs w) (h16 : p.t.length = 16) (hb : Byts w v l) (hr : (l.length : Int) ≤ 140737488355328) : Calls Tryd.prog 5 #[pmV p, v, .int .u64 (a : Int), .int .u64 (b : Int)] w fun e w' => e = .returned (.bool true) ∧ Below w.heap.size w w' := by
  have HT := Lib.hid hT
  have H16 := Lib.hid h16
  have HBV := Lib.hid hb
  have HP := Lib.hid (PmB.new w p h16)
  have ZP := Lib.hid (size25 p h16)
  have OP := Lib.hid (pm_ones p)
  have HEQ := Lib.hid (fun w => pm_eql w p p h16 h16)
  rw [show pmEq p p = true from (pmEq_iff _ _).2 rfl] at HEQ
  have h58 := put_len h16
  obtain ⟨av, cv, rfl, _⟩ := byts_val hb
  obtain ⟨L, hL⟩ : ∃ L, L = pputL p := ⟨_, rfl⟩
  obtain ⟨n, hn⟩ : ∃ n, n = L.length := ⟨_, rfl⟩
  have H58 : Hid (n ≤ 58) := by show _ ≤ _; rw [hn, hL]; exact h58
  have HL := Lib.hid hL
  have HN := Lib.hid hn
  have HR := Lib.hid hr
  unfold pmV
  clear hT h16 hL hn h58 hb
  have hM0 : Mod (fun _ => False) w (w.alloc (.cells (pmC p) 25)) := (Mod.refl _ w).alloc _
  by_cases hc : mayB p = true ∧ l.length ≤ 60
  case neg =>
    have HC := Lib.hid (may_no_or hc)
    clear hc hr
    go_enter Tryd.func5, Tryd.ntmps5
    go_wp2_with fail
    refine (alive_any _ (hM0.tabs HT.out (fun h => h))).mono ?_
    rintro e w1 ⟨rfl, hM1⟩
    have HP1 := Lib.hid (HP.out.kept hM1)
    have HM1 := Lib.hid (hM0.trans hM1)
    clear hM0 hM1 HP
    go_wp2_with ((with_reducible refine wpList_load_blk ?_ 25 (.tmp 4) ?_ w.heap.size ?_ (pmC p) 25 _ HP1.out.blk Tryd.underlying25 ?_ ZP.out ?_); (· exact rfl); (· exact rfl); (· exact rfl); (· exact rfl))
    refine (may_c H16.out w1).mono ?_
    rintro e w2 ⟨rfl, hM2⟩
    rcases HC.out with h | ⟨h, hk⟩
    · rw [h]
      clear h
      go_wp2_with fail
      go_ret
      exact ⟨rfl, (HM1.out.trans hM2).below (Nat.le_refl _) (fun _ _ h => h.elim)⟩
    · rw [h]
      have hd : decide ((60 : Int) < (l.length : Int)) = true := decide_eq_true (by omega)
      clear h hk
      go_wp2_with fail
      go_ret
      exact ⟨rfl, (HM1.out.trans hM2).below (Nat.le_refl _) (fun _ _ h => h.elim)⟩
  case pos =>
    obtain ⟨hm, hk⟩ := hc
    have HMB := Lib.hid hm
    have hd : decide ((60 : Int) < (l.length : Int)) = false := decide_eq_false (by omega)
    have HK := Lib.hid hk
    have hw8 : IntKind.u8.wrap (l.length : Int) = l.length := IntWalk.u8_in _ (by omega)
    have HRD := Lib.hid (read_back33 hm H16.out l (by omega))
    rw [← HL.out] at HRD
    clear hm hk hr
    obtain ⟨m, hm⟩ : ∃ m, m = l.length := ⟨_, rfl⟩
    rw [← hm] at hd hw8 ⊢
    have HBV2 : Hid (Byts w (.slice av m cv) l) := by rw [hm]; exact HBV.out
    have HMM := Lib.hid hm
    clear hm HBV
    have HE1 : Hid (L.length + ([33, UInt8.ofNat m] : List UInt8).length = n + 2) := by show _ = _; rw [← HN.out]; rfl
    have HE2 : Hid ((L ++ [33, UInt8.ofNat m]).length + l.length = n + 2 + m) := by show _ = _; rw [List.length_append, HE1.out, ← HMM.out]
    have HB1 : Hid (((n + 2 : Nat) : Int) ≤ 140737488355328) := by show _ ≤ _; have := H58.out; omega
    have HB2 : Hid (((n + 2 + m : Nat) : Int) ≤ 140737488355328) := by show _ ≤ _; have := H58.out; have := HMM.out; have := HK.out; omega
    have HLIT : Hid (#[Value.int .u8 33, .int .u8 (m : Int)] = (([33, UInt8.ofNat m] : List UInt8).map bv).toArray) := by
      show _ = _
      rw [u8_small m (by have := HMM.out; have := HK.out; omega)]; rfl
    go_enter Tryd.func5, Tryd.ntmps5
    go_wp2_with fail
    refine (alive_any _ (hM0.tabs HT.out (fun h => h))).mono ?_
    rintro e w1 ⟨rfl, hM1⟩
    have HP1 := Lib.hid (HP.out.kept hM1)
    have HM1 := Lib.hid (hM0.trans hM1)
    clear hM0 hM1 HP
    go_wp2_with ((with_reducible refine wpList_load_blk ?_ 25 (.tmp 4) ?_ w.heap.size ?_ (pmC p) 25 _ HP1.out.blk Tryd.underlying25 ?_ ZP.out ?_); (· exact rfl); (· exact rfl); (· exact rfl); (· exact rfl))
    refine (may_c H16.out w1).mono ?_
    rintro e w2 ⟨rfl, hM2⟩
    rw [HMB.out]
    have HP2 := Lib.hid (HP1.out.kept hM2)
    have HM2 := Lib.hid (HM1.out.trans hM2)
    clear hM2 HM1 HP1
    go_wp2_with ((with_reducible refine wpList_load_blk ?_ 25 (.tmp 4) ?_ w.heap.size ?_ (pmC p) 25 _ HP2.out.blk Tryd.underlying25 ?_ ZP.out ?_); (· exact rfl); (· exact rfl); (· exact rfl); (· exact rfl))
    refine (put_c H16.out HL.out.symm HN.out.symm (HM2.out.tabs HT.out (fun h => h))).mono ?_
    rintro e w3 ⟨a3, c3, rfl, ho3, hM3⟩
    have HO3 := Lib.hid ho3
    have HP3 := Lib.hid (HP2.out.kept hM3)
    have HM3 := Lib.hid (HM2.out.trans hM3)
    clear ho3 hM3
    have HOS := HM2.out.size
    go_wp2_with (first
      | (at_builtin; (refine wpList_append_b rfl (.tmp 24) (.tmp 28) (by rfl) (.slice a3 n c3) L w.heap.size (n + 2) (by rfl) ((HO3.out.alloc _).mono HOS) _ [33, UInt8.ofNat m] (by rfl) (byts_lit w3 [33, UInt8.ofNat m] _ 2 HLIT.out rfl (by decide)) (L ++ [33, UInt8.ofNat m]) rfl HE1.out HB1.out (HM3.out.alloc _).size ?_); intro a5 c5 w5 hA5; have hM5 := hA5.modF (HM3.out.alloc _) (Nat.le_refl _); have hP5 : PmB w5 w.heap.size p := ⟨(hA5.mod (S := fun k => (Value.slice a3 n c3).ownBlock = some k) ((Mod.refl _ w3).alloc _) (fun g hg _ => hg)).blk HP3.out.blk (fun e => HO3.out.apart HP3.out.blk (by decide) e), HP3.out.len⟩; have HP5 := Lib.hid hP5)
      | (at_builtin; (refine wpList_append_b rfl (.tmp 30) (.tmp 31) (by rfl) (.slice a5 (n + 2) c5) (L ++ [33, UInt8.ofNat m]) w.heap.size (n + 2 + m) (by rfl) hA5.own _ l (by rfl) (byts_kept HBV2.out hM5) (L ++ [33, UInt8.ofNat m] ++ l) rfl HE2.out HB2.out hM5.size ?_); intro a6 c6 w6 hA6; have hM6 := hA6.modF hM5 (Nat.le_refl _); have HP6 : Hid (PmB w6 w.heap.size p) := ⟨(hA6.mod (S := fun k => (Value.slice a5 (n + 2) c5).ownBlock = some k) (Mod.refl _ w5) (fun g hg _ => hg)).blk HP5.out.blk (fun e => hA5.own.apart HP5.out.blk (by decide) e), HP5.out.len⟩))
    have hb6 : Byts w6 (.slice a6 (n + 2 + m) c6) (L ++ [33, UInt8.ofNat m] ++ l) := hA6.byts
    have HM6 := Lib.hid hM6
    clear hA5 hM5 hA6 hM6 hP5
    rw [← HMM.out] at HRD
    refine (read_c hb6 (by have h1 := HE2.out; rw [List.length_append, h1]; have := H58.out; have := HMM.out; have := HK.out; omega) HRD.out).mono ?_
    rintro e w7 ⟨rfl, hM7⟩
    have HM7 := Lib.hid (HM6.out.trans hM7)
    have HP7 := Lib.hid (HP6.out.kept hM7)
    clear hM7 HM6 hb6 HP6
    go_wp2_with ((with_reducible refine wpList_store_blk ?_ 25 (.tmp 10) (.tmp 36) ?_ w7.heap.size ?_ _ (pmC p) ?_ 25 (Blk.new _ _ _) ZP.out ?_ OP.out ?_); (· exact rfl); (· exact rfl); (· exact rfl); (· exact rfl); (· rw [pmC_size p H16.out]; rfl); intro w8 hB hM; obtain ⟨hP8, hM8⟩ := pm_new hB hM H16.out; have HM8 := Lib.hid (HM7.out.trans hM8); have l4 := (HP7.out.kept hM8).load; have l10 := hP8.load; clear hB hM hP8 hM8 HM7)
    refine (idle_any a b w8).mono ?_
    rintro e w9 ⟨rfl, rfl⟩
    have hic := idle_comm b a
    by_cases ha : a = 0
    · subst ha
      by_cases hb0 : b = 0
      · subst hb0
        have hn : ((idleN 0 0 : Nat) : Int) = 0 := rfl
        have HN2 : Hid (((idleN 0 0 : Nat) : Int) = 0) := hn
        rw [hn]
        clear hn hic
        go_wp2_with (first | ((with_reducible refine wpList_load_g 25 (.tmp 10) ?_ ?_ (.pointer (some ⟨w7.heap.size, 0, none⟩)) (.agg (pmC p)) ?_ l10 ?_); (· exact rfl); (· exact rfl); (· exact rfl)) | ((with_reducible refine wpList_load_g 25 (.tmp 4) ?_ ?_ (.pointer (some ⟨w.heap.size, 0, none⟩)) (.agg (pmC p)) ?_ l4 ?_); (· exact rfl); (· exact rfl); (· exact rfl)) | ((with_reducible refine wpList_eq_g .eql 25 25 (.tmp 44) (.tmp 45) ?_ ?_ (pmC p) (pmC p) ?_ ?_ guard25 true (HEQ.out _) ?_); (· exact rfl); (· exact rfl); (· exact rfl); (· exact rfl)))
        refine (idle_any 0 0 w8).mono ?_
        rintro e w9 ⟨rfl, rfl⟩
        rw [HN2.out]
        go_wp2_with fail
        go_ret
        exact ⟨rfl, HM8.out.below (Nat.le_refl _) (fun _ _ h => h.elim)⟩
      · have hn : idleN 0 b = b := by unfold idleN; rw [if_pos (.inl rfl)]
        have HN2 : Hid (((idleN b 0 : Nat) : Int) = (b : Int)) := by show _ = _; rw [idle_comm, hn]
        have f1 : ((b : Int) == 0) = false := by simp; omega
        have f2 : decide ((0 : Int) < (b : Int)) = true := decide_eq_true (by omega)
        have f3 : (0 : Int) < (b : Int) := by omega
        rw [hn]
        clear hn hic hb0
        go_wp2_with (first | ((with_reducible refine wpList_load_g 25 (.tmp 10) ?_ ?_ (.pointer (some ⟨w7.heap.size, 0, none⟩)) (.agg (pmC p)) ?_ l10 ?_); (· exact rfl); (· exact rfl); (· exact rfl)) | ((with_reducible refine wpList_load_g 25 (.tmp 4) ?_ ?_ (.pointer (some ⟨w.heap.size, 0, none⟩)) (.agg (pmC p)) ?_ l4 ?_); (· exact rfl); (· exact rfl); (· exact rfl)) | ((with_reducible refine wpList_eq_g .eql 25 25 (.tmp 44) (.tmp 45) ?_ ?_ (pmC p) (pmC p) ?_ ?_ guard25 true (HEQ.out _) ?_); (· exact rfl); (· exact rfl); (· exact rfl); (· exact rfl)))
        refine (idle_any b 0 w8).mono ?_
        rintro e w9 ⟨rfl, rfl⟩
        rw [HN2.out]
        generalize (b : Int) = z at *
        go_wp2_with fail
        go_ret
        exact ⟨rfl, HM8.out.below (Nat.le_refl _) (fun _ _ h => h.elim)⟩
    · by_cases hb0 : b = 0
      · subst hb0
        have hn : idleN a 0 = a := by unfold idleN; rw [if_neg (by omega)]
        have HN2 : Hid (((idleN 0 a : Nat) : Int) = (a : Int)) := by show _ = _; rw [idle_comm, hn]
        have f1 : ((a : Int) == 0) = false := by simp; omega
        have f2 : decide ((0 : Int) < (a : Int)) = true := decide_eq_true (by omega)
        have f3 : (0 : Int) < (a : Int) := by omega
        rw [hn]
        clear hn hic ha
        go_wp2_with (first | ((with_reducible refine wpList_load_g 25 (.tmp 10) ?_ ?_ (.pointer (some ⟨w7.heap.size, 0, none⟩)) (.agg (pmC p)) ?_ l10 ?_); (· exact rfl); (· exact rfl); (· exact rfl)) | ((with_reducible refine wpList_load_g 25 (.tmp 4) ?_ ?_ (.pointer (some ⟨w.heap.size, 0, none⟩)) (.agg (pmC p)) ?_ l4 ?_); (· exact rfl); (· exact rfl); (· exact rfl)) | ((with_reducible refine wpList_eq_g .eql 25 25 (.tmp 44) (.tmp 45) ?_ ?_ (pmC p) (pmC p) ?_ ?_ guard25 true (HEQ.out _) ?_); (· exact rfl); (· exact rfl); (· exact rfl); (· exact rfl)))
        refine (idle_any 0 a w8).mono ?_
        rintro e w9 ⟨rfl, rfl⟩
        rw [HN2.out]
        generalize (a : Int) = y at *
        go_wp2_with fail
        go_ret
        exact ⟨rfl, HM8.out.below (Nat.le_refl _) (fun _ _ h => h.elim)⟩
      · by_cases hlt : b < a
        · have hn : idleN a b = b := by unfold idleN; rw [if_pos (by omega)]
          have HN2 : Hid (((idleN b a : Nat) : Int) = (b : Int)) := by show _ = _; rw [idle_comm, hn]
          have f1 : ((a : Int) == 0) = false := by simp; omega
          have f2 : ((b : Int) == 0) = false := by simp; omega
          have f3 : decide ((0 : Int) < (b : Int)) = true := decide_eq_true (by omega)
          have f4 : ((b : Int) == (a : Int)) = false := by simp; omega
          have f5 : decide ((b : Int) ≤ (a : Int)) = true := decide_eq_true (by omega)
          rw [hn]
          clear hn hic ha hb0 hlt
          go_wp2_with (first | ((with_reducible refine wpList_load_g 25 (.tmp 10) ?_ ?_ (.pointer (some ⟨w7.heap.size, 0, none⟩)) (.agg (pmC p)) ?_ l10 ?_); (· exact rfl); (· exact rfl); (· exact rfl)) | ((with_reducible refine wpList_load_g 25 (.tmp 4) ?_ ?_ (.pointer (some ⟨w.heap.size, 0, none⟩)) (.agg (pmC p)) ?_ l4 ?_); (· exact rfl); (· exact rfl); (· exact rfl)) | ((with_reducible refine wpList_eq_g .eql 25 25 (.tmp 44) (.tmp 45) ?_ ?_ (pmC p) (pmC p) ?_ ?_ guard25 true (HEQ.out _) ?_); (· exact rfl); (· exact rfl); (· exact rfl); (· exact rfl)))
          refine (idle_any b a w8).mono ?_
          rintro e w9 ⟨rfl, rfl⟩
          rw [HN2.out]
          generalize (a : Int) = y at *
          generalize (b : Int) = z at *
          go_wp2_with fail
          go_ret
          exact ⟨rfl, HM8.out.below (Nat.le_refl _) (fun _ _ h => h.elim)⟩
        · have hn : idleN a b = a := by unfold idleN; rw [if_neg (by omega)]
          have HN2 : Hid (((idleN b a : Nat) : Int) = (a : Int)) := by show _ = _; rw [idle_comm, hn]
          have f1 : ((a : Int) == 0) = false := by simp; omega
          have f2 : ((b : Int) == 0) = false := by simp; omega
          have f3 : decide ((0 : Int) < (a : Int)) = true := decide_eq_true (by omega)
          have f5 : decide ((a : Int) ≤ (b : Int)) = true := decide_eq_true (by omega)
          rw [hn]
          clear hn hic ha hb0 hlt
          go_wp2_with (first | ((with_reducible refine wpList_load_g 25 (.tmp 10) ?_ ?_ (.pointer (some ⟨w7.heap.size, 0, none⟩)) (.agg (pmC p)) ?_ l10 ?_); (· exact rfl); (· exact rfl); (· exact rfl)) | ((with_reducible refine wpList_load_g 25 (.tmp 4) ?_ ?_ (.pointer (some ⟨w.heap.size, 0, none⟩)) (.agg (pmC p)) ?_ l4 ?_); (· exact rfl); (· exact rfl); (· exact rfl)) | ((with_reducible refine wpList_eq_g .eql 25 25 (.tmp 44) (.tmp 45) ?_ ?_ (pmC p) (pmC p) ?_ ?_ guard25 true (HEQ.out _) ?_); (· exact rfl); (· exact rfl); (· exact rfl); (· exact rfl)))
          refine (idle_any b a w8).mono ?_
          rintro e w9 ⟨rfl, rfl⟩
          rw [HN2.out]
          generalize (a : Int) = y at *
          generalize (b : Int) = z at *
          go_wp2_with fail
          go_ret
          exact ⟨rfl, HM8.out.below (Nat.le_refl _) (fun _ _ h => h.elim)⟩
end Go.Proofs.YtacgcpofpmkgnaaDoor
