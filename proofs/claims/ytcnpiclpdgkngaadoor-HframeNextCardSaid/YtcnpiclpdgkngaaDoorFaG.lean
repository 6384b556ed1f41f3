/- The kinds' functions that put. -/
import Derived.Test.YtcnpiclpdgkngaaDoorFaF
import Derived.Test.YtcnpiclpdgkngaaDoorPaA
import Derived.Test.YtcnpiclpdgkngaaDoorVarC
import Derived.Deep.RegionHeld3
namespace Go.Proofs.YtcnpiclpdgkngaaDoor
open Go.RowKit

theorem putL_small (n : Nat) (h : n < 64) : putL n = [UInt8.ofNat n] := by
  have h1 : szN n = 1 := by rcases szN_cases n with h' | h' | h' | h' | h' <;> omega
  rw [putL_eq n (by omega), h1]
  simp [wd, be, tg]
theorem putL_len (n : Nat) : (putL n).length ≤ 8 := by rw [putL_length]; exact szN_le n
theorem putL_pos (n : Nat) (h : n ≤ topN) : 0 < (putL n).length := by
  unfold topN at h
  rw [putL_length]
  rcases szN_cases n with h' | h' | h' | h' | h' <;> omega
theorem parts3 {w : World} {b : Nat} {v1 v2 v3 : Value} {l1 l2 l3 : List UInt8} {T : TypeId} (hb : Blk w b #[v1, v2, v3] T) (h1 : Byts w v1 l1) (h2 : Byts w v2 l2) (h3 : Byts w v3 l3) : Parts w b 0 [l1, l2, l3] := by
  intro i l hl
  obtain ⟨a1, c1, rfl, _⟩ := byts_val h1
  obtain ⟨a2, c2, rfl, _⟩ := byts_val h2
  obtain ⟨a3, c3, rfl, _⟩ := byts_val h3
  rw [Nat.zero_add]
  match i, hl with
  | 0, hl => simp at hl; subst hl; exact ⟨_, _, hb.cellAt 0 rfl, h1⟩
  | 1, hl => simp at hl; subst hl; exact ⟨_, _, hb.cellAt 1 rfl, h2⟩
  | 2, hl => simp at hl; subst hl; exact ⟨_, _, hb.cellAt 2 rfl, h3⟩
  | (_ + 3), hl => simp at hl
/-- Three slices of bytes are joined. -/
theorem concat3 {w : World} {b : Nat} {v1 v2 v3 : Value} {l1 l2 l3 : List UInt8} {T : TypeId} (hb : Blk w b #[v1, v2, v3] T) (h1 : Byts w v1 l1) (h2 : Byts w v2 l2) (h3 : Byts w v3 l3) {L : List UInt8} (hL : l1 ++ l2 ++ l3 = L) (hl : (L.length : Int) ≤ 100000) (hp : 0 < L.length) :
    Calls Tryd.prog 28 #[.slice (some ⟨b, 0, none⟩) 3 3] w fun e w' => ∃ v', e = .returned v' ∧ OwnB w' w.heap.size v' L ∧ Mod (fun _ => False) w w' := by
  have e : [l1, l2, l3].flatten = L := by rw [← hL]; simp
  rw [← e] at hl hp ⊢
  exact concat_any (n := 3) (c := 3) (ls := [l1, l2, l3]) rfl (Nat.le_refl _) (parts3 hb h1 h2 h3) hl hp (by decide)
set_option maxRecDepth 10000 in
theorem kput_data {w : World} {f : HF} {vs vd : Value} (hv : HFV w f vs vd) : Calls Tryd.prog 49 #[hfA f vs vd] w fun e w' => e = .returned vd ∧ Mod (fun _ => False) w w' := by
  obtain ⟨sa, sc, rfl, _⟩ := set_val hv.st
  obtain ⟨da, dc, rfl, _⟩ := byts_val hv.d
  unfold hfA
  clear hv
  generalize f.st.length = ns at *
  generalize f.d.length = nd at *
  generalize (f.id : Int) = i at *
  generalize f.k = k at *
  go_enter Tryd.func49, Tryd.ntmps49
  go_wp2
  go_ret
  exact ⟨rfl, (Mod.refl _ w).alloc _⟩
set_option maxRecDepth 10000 in
theorem kput_id {w : World} {f : HF} {vs vd : Value} (hT : Tabs w) (hv : HFV w f vs vd) : Calls Tryd.prog 51 #[hfA f vs vd] w fun e w' => ∃ v, e = .returned v ∧ OwnB w' w.heap.size v (putL f.id) ∧ Mod (fun _ => False) w w' := by
  obtain ⟨sa, sc, rfl, _⟩ := set_val hv.st
  obtain ⟨da, dc, rfl, _⟩ := byts_val hv.d
  unfold hfA
  have HP := Lib.hid (fun X (h : Mod (fun _ => False) w X) => put_any f.id X (h.tabs hT (fun h => h)))
  have HE : Hid (∀ X, Mod (fun _ => False) w X → w.heap.size ≤ X.heap.size) := fun X h => h.size
  clear hv hT
  generalize f.st.length = ns at *
  generalize f.d.length = nd at *
  generalize putL f.id = P at *
  generalize (f.id : Int) = i at *
  generalize f.k = k at *
  go_enter Tryd.func51, Tryd.ntmps51
  go_wp2_with fail
  refine (HP.out _ ((Mod.refl _ _).alloc _)).mono ?_
  rintro e w1 ⟨v, rfl, ho, hM⟩
  obtain ⟨a1, c1, rfl, _⟩ := byts_val ho.byts
  have HM := Lib.hid (((Mod.refl (fun _ => False) w).alloc _).trans hM)
  have HO := Lib.hid ho
  clear ho hM HP
  generalize P.length = np at *
  go_wp2_with fail
  go_ret
  exact ⟨_, rfl, HO.out.mono (by simp), HM.out⟩
theorem setL_len (l : List (Nat × Nat)) : (setL l).length ≤ 16 * l.length := by
  unfold setL
  induction l with
  | nil => simp
  | cons s l ih =>
    have h1 := putL_len s.1
    have h2 := putL_len s.2
    rw [List.flatMap_cons, List.length_append, List.length_append, List.length_cons]
    omega

set_option maxHeartbeats 8000000 in
set_option maxRecDepth 10000 in
theorem kput_set {w : World} {f : HF} {vs vd : Value} (hT : Tabs w) (hv : HFV w f vs vd) (hok : ∀ s ∈ f.st, s.1 ≤ topN ∧ s.2 ≤ topN) (hlen : f.st.length ≤ 100) :
    Calls Tryd.prog 53 #[hfA f vs vd] w fun e w' => ∃ v, e = .returned v ∧ OwnB w' w.heap.size v (setL f.st) ∧ Mod (fun _ => False) w w' := by
  have HPU := Lib.hid (fun (n : Nat) X (h : Mod (fun _ => False) w X) => put_any n X (h.tabs hT (fun h => h)))
  have HOK := Lib.hid hok
  have HLE := Lib.hid hlen
  have HV := Lib.hid hv.st
  obtain ⟨da, dc, rfl, _⟩ := byts_val hv.d
  clear hv hT hok hlen
  obtain ⟨a, cap, rfl, hcap, _⟩ := set_val HV.out
  unfold hfA
  generalize hst : f.st = l at *
  obtain ⟨n, hnn⟩ : ∃ n, n = l.length := ⟨_, rfl⟩
  rw [← hnn] at hcap ⊢
  have hn100 : (n : Int) ≤ 100 := by rw [hnn]; have := HLE.out; omega
  have HN := Lib.hid hnn
  have hnc : (n : Int) ≤ cap := by omega
  clear hst hcap hnn
  generalize f.d.length = nd at *
  generalize (f.id : Int) = i at *
  generalize f.k = k0 at *
  go_enter Tryd.func53, Tryd.ntmps53
  have HM0 : Hid (Mod (fun _ => False) w (w.alloc (.cells #[.int .i64 k0, .int .u64 i, .slice a n cap, .slice da nd dc] 26))) := (Mod.refl _ w).alloc _
  go_wp2
  go_loopw [3, 9] (fun s3 s9 wr => ∃ k : Nat, k ≤ n ∧ s9 = .int .i64 k ∧ ∃ ap cp, s3 = .slice ap (setL (l.take k)).length cp ∧ Hid (OwnB wr w.heap.size (.slice ap (setL (l.take k)).length cp) (setL (l.take k)) ∧ Mod (fun _ => False) w wr)) (fun _ s9 _ => n - (intOf s9).toNat)
  case atStart => exact ⟨0, Nat.zero_le _, rfl, none, 0, rfl, ⟨OwnB.nil _ _, HM0.out⟩⟩
  case round =>
    clear HM0
    obtain ⟨k, hk, rfl, ap, cp, rfl, HR⟩ := hrel
    by_cases hkn : (k : Int) < n
    · have hkl : k < l.length := by have := HN.out; omega
      have hs : l[k]? = some l[k] := List.getElem?_eq_getElem hkl
      generalize l[k] = s at hs
      obtain ⟨b, off, cp0, hv, _, _, hcs⟩ := set_addr HV.out (by rintro rfl; simp at hkl)
      simp only [Value.slice.injEq] at hv
      obtain ⟨rfl, _, rfl⟩ := hv
      obtain ⟨g0, g1⟩ := hcs k s hs
      have g0' := HR.out.2.cellAt g0 (fun h => h)
      have g1' := HR.out.2.cellAt g1 (fun h => h)
      have hsk := HOK.out s (List.mem_of_getElem? hs)
      have HS := Lib.hid hs
      obtain ⟨L, hL⟩ : ∃ x, x = setL (l.take (k + 1)) := ⟨_, rfl⟩
      have HLL := Lib.hid hL
      have HNEW : Hid (setL (l.take k) ++ putL s.1 ++ putL s.2 = L) := by show _ = _; rw [hL, take_snoc l k s hs]; simp [setL]
      have HPOS : Hid (0 < L.length) := by show 0 < _; rw [← HNEW.out]; have := putL_pos s.1 hsk.1; simp; omega
      have HLEN : Hid ((L.length : Int) ≤ 100000) := by
        show _ ≤ _
        rw [← HNEW.out]
        have h0 := setL_len (l.take k)
        have h1 := putL_len s.1
        have h2 := putL_len s.2
        have h3 : (l.take k).length ≤ 100 := by rw [List.length_take]; omega
        simp only [List.length_append]
        omega
      clear g0 g1 hs hcs hkl hsk hL
      obtain ⟨acc, hacc⟩ : ∃ x, x = setL (l.take k) := ⟨_, rfl⟩
      rw [← hacc] at HR HNEW ⊢
      clear hacc
      obtain ⟨n0, hn0⟩ : ∃ x, x = acc.length := ⟨_, rfl⟩
      rw [← hn0] at HR ⊢
      clear hn0
      go_wp2_with ((with_reducible refine wpList_store_blk ?_ 49 (.tmp 5) (.tmp 12) ?_ wr.heap.size ?_ #[.int .u64 0, .int .u64 0] #[.int .u64 (s.1 : Int), .int .u64 (s.2 : Int)] ?_ 49 (Blk.new _ _ _) (size49 _ _) ?_ ?_ ?_); (· exact rfl); (· exact rfl); (· exact rfl); (· exact rfl); (· exact rfl); (· intro v hv; simp at hv; rcases hv with rfl | rfl <;> rfl); intro wx hBx hMx; have HMz := Lib.hid (((Mod.refl (fun _ => False) wr).alloc _).trans' hMx (fun i hi e => by omega)); have HMx := Lib.hid (HR.out.2.trans HMz.out); have x0 : wx.cell? ⟨wr.heap.size, 0, none⟩ = some (.int .u64 (s.1 : Int)) := hBx.cellAt 0 rfl; have x1 : wx.cell? ⟨wr.heap.size, 1, none⟩ = some (.int .u64 (s.2 : Int)) := hBx.cellAt 1 rfl; clear hBx hMx)
      have hd : Mod (fun _ => False) wx wx.drew := (Mod.refl _ _).drew
      have x0d := hd.cellAt x0 (fun h => h)
      have x1d := hd.cellAt x1 (fun h => h)
      have HPUT : Hid (∀ (n : Nat) X, Mod (fun _ => False) wx X → Calls Tryd.prog 29 #[.int .u64 (n : Int)] X fun e w' => ∃ v, e = .returned v ∧ OwnB w' X.heap.size v (putL n) ∧ Mod (fun _ => False) X w') := fun n X h => HPU.out n X (HMx.out.trans h)
      have HACCB := Lib.hid (byts_kept HR.out.1.byts HMz.out)
      refine wp_region_held_drew (S := fun X => X.cell? ⟨wr.heap.size, 0, none⟩ = some (.int .u64 (s.1 : Int)) ∧ X.cell? ⟨wr.heap.size, 1, none⟩ = some (.int .u64 (s.2 : Int)) ∧ Mod (fun _ => False) wx X) (by kernel_rfl) ⟨x0d, x1d, hd⟩ (fun hS => ?_)
      refine wpAnyH_take (i := 0) (v := .slice ap n0 cp) rfl (by kernel_rfl) (by kernel_rfl) (by kernel_rfl) (fun _ _ _ h => h) (Or.inl ⟨by rfl, fun X hX => ?_⟩) hS ?_
      · go_simp
      refine wpAnyH_take (i := 1) (v := .pointer (some ⟨wr.heap.size, 0, none⟩)) rfl (by kernel_rfl) (by kernel_rfl) (by kernel_rfl) (fun _ _ _ h => h) (Or.inl ⟨by rfl, fun X hX => ?_⟩) hS ?_
      · go_simp
      refine wpAnyH_take (i := 2) (v := .int .u64 (s.1 : Int)) rfl (by kernel_rfl) (by kernel_rfl) (by kernel_rfl) (fun _ _ _ h => h) (Or.inl ⟨by rfl, fun X hX => ?_⟩) hS ?_
      · have := hX.1; go_simp
      refine wpAnyH_take (i := 4) (v := .pointer (some ⟨wr.heap.size, 1, none⟩)) rfl (by kernel_rfl) (by kernel_rfl) (by kernel_rfl) (fun _ _ _ h => h) (Or.inl ⟨by rfl, fun X hX => ?_⟩) hS ?_
      · go_simp
      refine wpAnyH_take (i := 5) (v := .int .u64 (s.2 : Int)) rfl (by kernel_rfl) (by kernel_rfl) (by kernel_rfl) (fun _ _ _ h => h) (Or.inl ⟨by rfl, fun X hX => ?_⟩) hS ?_
      · have := hX.2.1; go_simp
      refine wpAnyH_ready (rs := [3]) (by kernel_rfl) (by simp) ?_
      refine AllReadyH.cons rfl (fun K hK => ?_) AllReadyH.nil
      go_simp
      refine (HPUT.out s.1 wx.drew hd).mono ?_
      rintro e Y1 ⟨v1, rfl, hoY1, hkY1⟩
      have hmY1 := hd.trans hkY1
      have hbY1 := byts_kept hoY1.byts (Mod.refl _ _)
      obtain ⟨aY1, cY1, rfl, _⟩ := byts_val hbY1
      refine hK.out _ _ ⟨hmY1.cellAt x0 (fun h => h), hmY1.cellAt x1 (fun h => h), hmY1⟩ (fun hS => ?_)
      clear hK K
      refine wpAnyH_ready (rs := [6]) (by kernel_rfl) (by simp) ?_
      refine AllReadyH.cons rfl (fun K hK => ?_) AllReadyH.nil
      go_simp
      refine (HPUT.out s.2 Y1 hmY1).mono ?_
      rintro e Y2 ⟨v2, rfl, hoY2, hkY2⟩
      have hmY2 := hmY1.trans hkY2
      have hbY2 := byts_kept hoY2.byts (Mod.refl _ _)
      obtain ⟨aY2, cY2, rfl, _⟩ := byts_val hbY2
      refine hK.out _ _ ⟨hmY2.cellAt x0 (fun h => h), hmY2.cellAt x1 (fun h => h), hmY2⟩ (fun hS => ?_)
      clear hK K
      have hR := hmY2.alloc (.cells #[.slice ap n0 cp, .slice aY1 (putL s.1).length cY1, .slice aY2 (putL s.2).length cY2] 24)
      have bR := Blk.new Y2 #[.slice ap n0 cp, .slice aY1 (putL s.1).length cY1, .slice aY2 (putL s.2).length cY2] 24
      refine wpAnyH_ready (rs := [7]) (by kernel_rfl) (by simp) ?_
      refine AllReadyH.cons rfl (fun K hK => ?_) AllReadyH.nil
      go_simp
      refine hK.out _ _ ⟨hR.cellAt x0 (fun h => h), hR.cellAt x1 (fun h => h), hR⟩ (fun hS => ?_)
      clear hK K
      refine wpAnyH_ready (rs := [8]) (by kernel_rfl) (by simp) ?_
      refine AllReadyH.cons rfl (fun K hK => ?_) AllReadyH.nil
      go_simp
      refine (concat3 bR (byts_kept HACCB.out hR) (byts_kept hbY1 (hkY2.alloc _)) (byts_kept hbY2 ((Mod.refl _ _).alloc _)) HNEW.out HLEN.out HPOS.out).mono ?_
      rintro e Y3 ⟨v3, rfl, ho3, hk3⟩
      have hm3 := hR.trans hk3
      obtain ⟨a3, c3, rfl, _⟩ := byts_val ho3.byts
      refine hK.out _ _ ⟨hm3.cellAt x0 (fun h => h), hm3.cellAt x1 (fun h => h), hm3⟩ (fun hS => ?_)
      clear hK K
      refine wpAnyH_ready (rs := [9]) (by kernel_rfl) (by simp) ?_
      refine AllReadyH.cons rfl (fun K hK => ?_) AllReadyH.nil
      go_simp
      refine hK.out _ _ ⟨hm3.cellAt x0 (fun h => h), hm3.cellAt x1 (fun h => h), hm3⟩ (fun hS => ?_)
      clear hK K
      refine wpAnyH_done (by kernel_rfl) ?_ _
      have HO3 := Lib.hid (ho3.mono (B' := w.heap.size) (by have := HMx.out.size; have := hR.size; omega))
      have HM3 := Lib.hid (HMx.out.trans hm3)
      clear ho3 hm3 hk3 hR bR hS
      rw [HLL.out] at HO3 ⊢
      go_wp2
      go_roundw
      case rel => exact ⟨k + 1, by omega, by go_num, a3, c3, rfl, ⟨HO3.out, HM3.out⟩⟩
      case measure => simp [intOf]; omega
    · have hkn' : k = n := by omega
      have hall : l.take k = l := List.take_of_length_le (by have := HN.out; omega)
      rw [hall] at HR ⊢
      obtain ⟨L, hL⟩ : ∃ x, x = setL l := ⟨_, rfl⟩
      rw [← hL] at HR ⊢
      have HL := Lib.hid hL
      clear hL
      generalize L.length = nL at *
      go_wp2
      go_ret
      exact ⟨_, rfl, by rw [← HL.out]; exact HR.out.1, HR.out.2⟩
end Go.Proofs.YtcnpiclpdgkngaaDoor
