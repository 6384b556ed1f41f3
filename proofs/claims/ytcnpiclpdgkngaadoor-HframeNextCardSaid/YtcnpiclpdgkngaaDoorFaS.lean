/- A field section: the program's. (printed by genfas.py) -/
import Derived.Test.YtcnpiclpdgkngaaDoorFaR
import Derived.Deep.RegionHeld3
namespace Go.Proofs.YtcnpiclpdgkngaaDoor
open Go.RowKit

theorem size52 (a b : Value) : (Tryd.prog.info? 52).map (·.size) = some (#[a, b] : Array Value).size := by show _ = some 2; kernel_rfl
theorem parts4 {w : World} {b : Nat} {v1 v2 v3 v4 : Value} {l1 l2 l3 l4 : List UInt8} {T : TypeId} (hb : Blk w b #[v1, v2, v3, v4] T) (h1 : Byts w v1 l1) (h2 : Byts w v2 l2) (h3 : Byts w v3 l3) (h4 : Byts w v4 l4) : Parts w b 0 [l1, l2, l3, l4] := by
  intro i l hl
  obtain ⟨a1, c1, rfl, _⟩ := byts_val h1
  obtain ⟨a2, c2, rfl, _⟩ := byts_val h2
  obtain ⟨a3, c3, rfl, _⟩ := byts_val h3
  obtain ⟨a4, c4, rfl, _⟩ := byts_val h4
  rw [Nat.zero_add]
  match i, hl with
  | 0, hl => simp at hl; subst hl; exact ⟨_, _, hb.cellAt 0 rfl, h1⟩
  | 1, hl => simp at hl; subst hl; exact ⟨_, _, hb.cellAt 1 rfl, h2⟩
  | 2, hl => simp at hl; subst hl; exact ⟨_, _, hb.cellAt 2 rfl, h3⟩
  | 3, hl => simp at hl; subst hl; exact ⟨_, _, hb.cellAt 3 rfl, h4⟩
  | (_ + 4), hl => simp at hl
/-- Four slices of bytes are joined. -/
theorem concat4 {w : World} {b : Nat} {v1 v2 v3 v4 : Value} {l1 l2 l3 l4 : List UInt8} {T : TypeId} (hb : Blk w b #[v1, v2, v3, v4] T) (h1 : Byts w v1 l1) (h2 : Byts w v2 l2) (h3 : Byts w v3 l3) (h4 : Byts w v4 l4) {L : List UInt8} (hL : l1 ++ l2 ++ l3 ++ l4 = L) (hl : (L.length : Int) ≤ 100000) (hp : 0 < L.length) :
    Calls Tryd.prog 28 #[.slice (some ⟨b, 0, none⟩) 4 4] w fun e w' => ∃ v', e = .returned v' ∧ OwnB w' w.heap.size v' L ∧ Mod (fun _ => False) w w' := by
  have e : [l1, l2, l3, l4].flatten = L := by rw [← hL]; simp
  rw [← e] at hl hp ⊢
  exact concat_any (n := 4) (c := 4) (ls := [l1, l2, l3, l4]) rfl (Nat.le_refl _) (parts4 hb h1 h2 h3 h4) hl hp (by decide)
theorem textL_len (s : List UInt8) : (textL s).length ≤ 8 + s.length := by unfold textL; have := putL_len s.length; simp; omega
theorem fds_good {l : List Fd} (h : fieldsB l = true) : l.length ≤ 32 ∧ ∀ f ∈ l, 1 ≤ f.n.length ∧ f.n.length ≤ 60 ∧ f.v.length ≤ 200 ∧ f.n.any isUp = false := by
  unfold fieldsB at h
  simp only [Bool.and_eq_true, decide_eq_true_eq, Bool.not_eq_true', List.any_eq_false] at h
  refine ⟨h.1, fun f hf => ?_⟩
  have := h.2 f hf
  unfold badFd at this
  simp only [Bool.or_eq_true, decide_eq_true_eq, not_or] at this
  obtain ⟨⟨⟨a, b⟩, c⟩, d⟩ := this
  exact ⟨by omega, by omega, by omega, by simpa using d⟩
theorem fdL_len (f : Fd) : (fdL f).length ≤ 17 + f.n.length + f.v.length := by
  unfold fdL
  have h1 := textL_len f.n
  have h2 := textL_len f.v
  rw [List.length_append, List.length_cons]
  omega
def secL (l : List Fd) : List UInt8 := l.flatMap fdL
theorem pack_len (l : List Fd) (h : ∀ f ∈ l, f.n.length ≤ 60 ∧ f.v.length ≤ 200) : (secL l).length ≤ 277 * l.length := by
  unfold secL
  induction l with
  | nil => simp
  | cons s l ih =>
    have h1 := fdL_len s
    have h2 := h s (by simp)
    have h3 := ih (fun f hf => h f (by simp [hf]))
    rw [List.flatMap_cons, List.length_append, List.length_cons]
    omega

set_option maxHeartbeats 8000000 in
set_option maxRecDepth 10000 in
theorem pack_any {w : World} {v : Value} {l : List Fd} (hT : Tabs w) (hU : UTabs w) (hv : FldV w v l) (hn : (l.length : Int) ≤ 100000) (ho : FdsOk l) :
    Calls Tryd.prog 23 #[v] w fun e w' => ∃ v', e = .returned v' ∧ OwnB w' w.heap.size v' (packL l) ∧ Mod (fun _ => False) w w' := by
  have HX := Lib.hid (flds_any hU hv hn ho)
  have HPU := Lib.hid (fun (s : List UInt8) (hl : (s.length : Int) ≤ 100000) X (h : Mod (fun _ => False) w X) => text_any s hl X (h.tabs hT (fun h => h)))
  have HV := Lib.hid hv
  clear hv hT hU ho
  obtain ⟨a, cap, rfl, hcap, _⟩ := fld_val HV.out
  obtain ⟨n, hnn⟩ : ∃ n, n = l.length := ⟨_, rfl⟩
  rw [← hnn] at hn hcap HX ⊢
  have HN := Lib.hid hnn
  have hnc : (n : Int) ≤ cap := by omega
  clear hcap hnn
  generalize hB : fieldsB l = B at *
  cases B
  · have e : packL l = [] := by unfold packL; rw [hB]; simp
    rw [e]
    clear hB e HPU HV HN
    go_enter Tryd.func23, Tryd.ntmps23
    go_wp2_with fail
    refine (HX.out).mono ?_
    rintro e w1 ⟨rfl, hM⟩
    go_wp2
    go_ret
    exact ⟨_, rfl, OwnB.nil _ _, hM⟩
  have e : packL l = secL l := by unfold packL secL; rw [if_pos hB]
  rw [e]
  clear e
  obtain ⟨h32, hgood⟩ := fds_good hB
  have hn32 : (n : Int) ≤ 32 := by have := HN.out; omega
  have HG := Lib.hid hgood
  clear hB hgood h32
  go_enter Tryd.func23, Tryd.ntmps23
  go_wp2_with fail
  refine (HX.out).mono ?_
  rintro e w1 ⟨rfl, hM1⟩
  have HM1 := Lib.hid hM1
  clear HX hM1
  go_wp2
  go_loopw [3, 11] (fun s3 s11 wr => ∃ k : Nat, k ≤ n ∧ s11 = .int .i64 k ∧ ∃ ap cp, s3 = .slice ap (secL (l.take k)).length cp ∧ Hid (OwnB wr w.heap.size (.slice ap (secL (l.take k)).length cp) (secL (l.take k)) ∧ Mod (fun _ => False) w wr)) (fun _ s11 _ => n - (intOf s11).toNat)
  case atStart => exact ⟨0, Nat.zero_le _, rfl, none, 0, rfl, ⟨OwnB.nil _ _, HM1.out⟩⟩
  case round =>
    clear HM1
    obtain ⟨k, hk, rfl, ap, cp, rfl, HR⟩ := hrel
    by_cases hkn : (k : Int) < n
    · have hkl : k < l.length := by have := HN.out; omega
      have hs : l[k]? = some l[k] := List.getElem?_eq_getElem hkl
      generalize l[k] = s at hs
      obtain ⟨b, off, cp0, hv, _, _, hcs⟩ := fld_addr HV.out (by rintro rfl; simp at hkl)
      simp only [Value.slice.injEq] at hv
      obtain ⟨rfl, _, rfl⟩ := hv
      obtain ⟨g0, g1⟩ := hcs k s hs
      have g0' := HR.out.2.cellAt g0 (fun h => h)
      have g1' := HR.out.2.cellAt g1 (fun h => h)
      have hsk := HG.out s (List.mem_of_getElem? hs)
      have HS := Lib.hid hs
      obtain ⟨L, hL⟩ : ∃ x, x = secL (l.take (k + 1)) := ⟨_, rfl⟩
      have HLL := Lib.hid hL
      have HNEW : Hid (secL (l.take k) ++ [32] ++ textL s.n ++ textL s.v = L) := by show _ = _; rw [hL]; unfold secL; rw [take_snoc l k s hs, List.flatMap_append, List.flatMap_cons, List.flatMap_nil, List.append_nil]; simp [fdL]
      have HPOS : Hid (0 < L.length) := by show 0 < _; rw [← HNEW.out]; simp; omega
      have HLEN : Hid ((L.length : Int) ≤ 100000) := by
        show _ ≤ _
        rw [hL]
        have h1 := pack_len (l.take (k + 1)) (fun f hf => by have := HG.out f (List.mem_of_mem_take hf); omega)
        have h3 : (l.take (k + 1)).length ≤ 32 := by rw [List.length_take]; omega
        omega
      have HT1 : Hid (∀ X, Mod (fun _ => False) w X → Calls Tryd.prog 45 #[strV s.n] X fun e w' => ∃ v, e = .returned v ∧ OwnB w' X.heap.size v (textL s.n) ∧ Mod (fun _ => False) X w') := fun X h => HPU.out s.n (by have := hsk.2.1; omega) X h
      have HT2 : Hid (∀ X, Mod (fun _ => False) w X → Calls Tryd.prog 45 #[strV s.v] X fun e w' => ∃ v, e = .returned v ∧ OwnB w' X.heap.size v (textL s.v) ∧ Mod (fun _ => False) X w') := fun X h => HPU.out s.v (by have := hsk.2.2.1; omega) X h
      clear g0 g1 hs hcs hkl hsk hL HPU
      unfold strV at *
      generalize (ByteArray.mk s.n.toArray) = s1 at *
      generalize (ByteArray.mk s.v.toArray) = s2 at *
      obtain ⟨acc, hacc⟩ : ∃ x, x = secL (l.take k) := ⟨_, rfl⟩
      rw [← hacc] at HR HNEW ⊢
      clear hacc
      obtain ⟨n0, hn0⟩ : ∃ x, x = acc.length := ⟨_, rfl⟩
      rw [← hn0] at HR ⊢
      clear hn0
      go_wp2_with ((with_reducible refine wpList_store_blk ?_ 52 (.tmp 5) (.tmp 14) ?_ wr.heap.size ?_ #[.string ⟨#[]⟩, .string ⟨#[]⟩] #[.string s1, .string s2] ?_ 52 (Blk.new _ _ _) (size52 _ _) ?_ ?_ ?_); (· exact rfl); (· exact rfl); (· exact rfl); (· exact rfl); (· exact rfl); (· intro v hv; simp at hv; rcases hv with rfl | rfl <;> rfl); intro wx hBx hMx; have HMz := Lib.hid (((Mod.refl (fun _ => False) wr).alloc _).trans' hMx (fun i hi e => by omega)); have HMx := Lib.hid (HR.out.2.trans HMz.out); have x0 : wx.cell? ⟨wr.heap.size, 0, none⟩ = some (.string s1) := hBx.cellAt 0 rfl; have x1 : wx.cell? ⟨wr.heap.size, 1, none⟩ = some (.string s2) := hBx.cellAt 1 rfl; clear hBx hMx)
      have hd : Mod (fun _ => False) wx wx.drew := (Mod.refl _ _).drew
      have x0d := hd.cellAt x0 (fun h => h)
      have x1d := hd.cellAt x1 (fun h => h)
      have HT1 := Lib.hid (fun X (h : Mod (fun _ => False) wx X) => HT1.out X (HMx.out.trans h))
      have HT2 := Lib.hid (fun X (h : Mod (fun _ => False) wx X) => HT2.out X (HMx.out.trans h))
      have HACCB := Lib.hid (byts_kept HR.out.1.byts HMz.out)
      refine wp_region_held_drew (S := fun X => X.cell? ⟨wr.heap.size, 0, none⟩ = some (.string s1) ∧ X.cell? ⟨wr.heap.size, 1, none⟩ = some (.string s2) ∧ Mod (fun _ => False) wx X) (by kernel_rfl) ⟨x0d, x1d, hd⟩ (fun hS => ?_)
      refine wpAnyH_take (i := 0) (v := .slice ap n0 cp) rfl (by kernel_rfl) (by kernel_rfl) (by kernel_rfl) (fun _ _ _ h => h) (Or.inl ⟨by rfl, fun X hX => ?_⟩) hS ?_
      · go_simp
      refine wpAnyH_take (i := 2) (v := .pointer (some ⟨wr.heap.size, 0, none⟩)) rfl (by kernel_rfl) (by kernel_rfl) (by kernel_rfl) (fun _ _ _ h => h) (Or.inl ⟨by rfl, fun X hX => ?_⟩) hS ?_
      · go_simp
      refine wpAnyH_take (i := 3) (v := .string s1) rfl (by kernel_rfl) (by kernel_rfl) (by kernel_rfl) (fun _ _ _ h => h) (Or.inl ⟨by rfl, fun X hX => ?_⟩) hS ?_
      · have := hX.1; go_simp
      refine wpAnyH_take (i := 5) (v := .pointer (some ⟨wr.heap.size, 1, none⟩)) rfl (by kernel_rfl) (by kernel_rfl) (by kernel_rfl) (fun _ _ _ h => h) (Or.inl ⟨by rfl, fun X hX => ?_⟩) hS ?_
      · go_simp
      refine wpAnyH_take (i := 6) (v := .string s2) rfl (by kernel_rfl) (by kernel_rfl) (by kernel_rfl) (fun _ _ _ h => h) (Or.inl ⟨by rfl, fun X hX => ?_⟩) hS ?_
      · have := hX.2.1; go_simp
      refine wpAnyH_ready (rs := [1, 4]) (by kernel_rfl) (by simp) ?_
      refine (AllReadyH.cons rfl (fun K hK => ?_) (AllReadyH.cons rfl (fun K hK => ?_) AllReadyH.nil))
      · go_simp
        have hk1 : Mod (fun _ => False) wx.drew (wx.drew.alloc (.cells #[.int .u8 32] 5)) := (Mod.refl _ _).alloc _
        have hm1 := hd.trans hk1
        have hb16_1 := byts_lit wx.drew [32] #[.int .u8 32] 1 rfl rfl (by decide)
        refine hK.out _ _ ⟨hm1.cellAt x0 (fun h => h), hm1.cellAt x1 (fun h => h), hm1⟩ (fun hS => ?_)
        clear hK K
        refine wpAnyH_ready (rs := [4]) (by kernel_rfl) (by simp) ?_
        refine AllReadyH.cons rfl (fun K hK => ?_) AllReadyH.nil
        go_simp
        refine (HT1.out (wx.drew.alloc (.cells #[.int .u8 32] 5)) hm1).mono ?_
        rintro e Y2 ⟨v2, rfl, ho2, hk2⟩
        have hm2 := hm1.trans hk2
        have hb16_2 := byts_kept hb16_1 hk2
        have hb19_2 := ho2.byts
        obtain ⟨a2, c2, rfl, _⟩ := byts_val hb19_2
        refine hK.out _ _ ⟨hm2.cellAt x0 (fun h => h), hm2.cellAt x1 (fun h => h), hm2⟩ (fun hS => ?_)
        clear hK K
        refine wpAnyH_ready (rs := [7]) (by kernel_rfl) (by simp) ?_
        refine AllReadyH.cons rfl (fun K hK => ?_) AllReadyH.nil
        go_simp
        refine (HT2.out Y2 hm2).mono ?_
        rintro e Y3 ⟨v3, rfl, ho3, hk3⟩
        have hm3 := hm2.trans hk3
        have hb16_3 := byts_kept hb16_2 hk3
        have hb19_3 := byts_kept hb19_2 hk3
        have hb22_3 := ho3.byts
        obtain ⟨a3, c3, rfl, _⟩ := byts_val hb22_3
        refine hK.out _ _ ⟨hm3.cellAt x0 (fun h => h), hm3.cellAt x1 (fun h => h), hm3⟩ (fun hS => ?_)
        clear hK K
        have hR := hm3.alloc (.cells #[.slice ap n0 cp, .slice (some ⟨wx.drew.heap.size, 0, none⟩) 1 1, .slice a2 (textL s.n).length c2, .slice a3 (textL s.v).length c3] 24)
        have bR := Blk.new Y3 #[.slice ap n0 cp, .slice (some ⟨wx.drew.heap.size, 0, none⟩) 1 1, .slice a2 (textL s.n).length c2, .slice a3 (textL s.v).length c3] 24
        have kR : Mod (fun _ => False) Y3 (Y3.alloc (.cells #[.slice ap n0 cp, .slice (some ⟨wx.drew.heap.size, 0, none⟩) 1 1, .slice a2 (textL s.n).length c2, .slice a3 (textL s.v).length c3] 24)) := (Mod.refl _ _).alloc _
        refine wpAnyH_ready (rs := [8]) (by kernel_rfl) (by simp) ?_
        refine AllReadyH.cons rfl (fun K hK => ?_) AllReadyH.nil
        go_simp
        refine hK.out _ _ ⟨hR.cellAt x0 (fun h => h), hR.cellAt x1 (fun h => h), hR⟩ (fun hS => ?_)
        clear hK K
        refine wpAnyH_ready (rs := [9]) (by kernel_rfl) (by simp) ?_
        refine AllReadyH.cons rfl (fun K hK => ?_) AllReadyH.nil
        go_simp
        refine (concat4 bR (byts_kept HACCB.out hR) (byts_kept hb16_3 kR) (byts_kept hb19_3 kR) (byts_kept hb22_3 kR) HNEW.out HLEN.out HPOS.out).mono ?_
        rintro e Y9 ⟨v9, rfl, ho9, hk9⟩
        have hm9 := hR.trans hk9
        obtain ⟨a9, c9, rfl, _⟩ := byts_val ho9.byts
        refine hK.out _ _ ⟨hm9.cellAt x0 (fun h => h), hm9.cellAt x1 (fun h => h), hm9⟩ (fun hS => ?_)
        clear hK K
        refine wpAnyH_ready (rs := [10]) (by kernel_rfl) (by simp) ?_
        refine AllReadyH.cons rfl (fun K hK => ?_) AllReadyH.nil
        go_simp
        refine hK.out _ _ ⟨hm9.cellAt x0 (fun h => h), hm9.cellAt x1 (fun h => h), hm9⟩ (fun hS => ?_)
        clear hK K
        refine wpAnyH_done (by kernel_rfl) ?_ _
        have HO3 := Lib.hid (ho9.mono (B' := w.heap.size) (by have := HMx.out.size; have := hR.size; omega))
        have HM3 := Lib.hid (HMx.out.trans hm9)
        clear ho9 hm9 hk9 hR bR kR hS
        rw [HLL.out] at HO3 ⊢
        go_wp2
        go_roundw
        case rel => exact ⟨k + 1, by omega, by go_num, a9, c9, rfl, ⟨HO3.out, HM3.out⟩⟩
        case measure => simp [intOf]; omega
      · go_simp
        refine (HT1.out wx.drew hd).mono ?_
        rintro e Y1 ⟨v1, rfl, ho1, hk1⟩
        have hm1 := hd.trans hk1
        have hb19_1 := ho1.byts
        obtain ⟨a1, c1, rfl, _⟩ := byts_val hb19_1
        refine hK.out _ _ ⟨hm1.cellAt x0 (fun h => h), hm1.cellAt x1 (fun h => h), hm1⟩ (fun hS => ?_)
        clear hK K
        refine wpAnyH_ready (rs := [1, 7]) (by kernel_rfl) (by simp) ?_
        refine (AllReadyH.cons rfl (fun K hK => ?_) (AllReadyH.cons rfl (fun K hK => ?_) AllReadyH.nil))
        · go_simp
          have hk2 : Mod (fun _ => False) Y1 (Y1.alloc (.cells #[.int .u8 32] 5)) := (Mod.refl _ _).alloc _
          have hm2 := hm1.trans hk2
          have hb19_2 := byts_kept hb19_1 hk2
          have hb16_2 := byts_lit Y1 [32] #[.int .u8 32] 1 rfl rfl (by decide)
          refine hK.out _ _ ⟨hm2.cellAt x0 (fun h => h), hm2.cellAt x1 (fun h => h), hm2⟩ (fun hS => ?_)
          clear hK K
          refine wpAnyH_ready (rs := [7]) (by kernel_rfl) (by simp) ?_
          refine AllReadyH.cons rfl (fun K hK => ?_) AllReadyH.nil
          go_simp
          refine (HT2.out (Y1.alloc (.cells #[.int .u8 32] 5)) hm2).mono ?_
          rintro e Y3 ⟨v3, rfl, ho3, hk3⟩
          have hm3 := hm2.trans hk3
          have hb19_3 := byts_kept hb19_2 hk3
          have hb16_3 := byts_kept hb16_2 hk3
          have hb22_3 := ho3.byts
          obtain ⟨a3, c3, rfl, _⟩ := byts_val hb22_3
          refine hK.out _ _ ⟨hm3.cellAt x0 (fun h => h), hm3.cellAt x1 (fun h => h), hm3⟩ (fun hS => ?_)
          clear hK K
          have hR := hm3.alloc (.cells #[.slice ap n0 cp, .slice (some ⟨Y1.heap.size, 0, none⟩) 1 1, .slice a1 (textL s.n).length c1, .slice a3 (textL s.v).length c3] 24)
          have bR := Blk.new Y3 #[.slice ap n0 cp, .slice (some ⟨Y1.heap.size, 0, none⟩) 1 1, .slice a1 (textL s.n).length c1, .slice a3 (textL s.v).length c3] 24
          have kR : Mod (fun _ => False) Y3 (Y3.alloc (.cells #[.slice ap n0 cp, .slice (some ⟨Y1.heap.size, 0, none⟩) 1 1, .slice a1 (textL s.n).length c1, .slice a3 (textL s.v).length c3] 24)) := (Mod.refl _ _).alloc _
          refine wpAnyH_ready (rs := [8]) (by kernel_rfl) (by simp) ?_
          refine AllReadyH.cons rfl (fun K hK => ?_) AllReadyH.nil
          go_simp
          refine hK.out _ _ ⟨hR.cellAt x0 (fun h => h), hR.cellAt x1 (fun h => h), hR⟩ (fun hS => ?_)
          clear hK K
          refine wpAnyH_ready (rs := [9]) (by kernel_rfl) (by simp) ?_
          refine AllReadyH.cons rfl (fun K hK => ?_) AllReadyH.nil
          go_simp
          refine (concat4 bR (byts_kept HACCB.out hR) (byts_kept hb16_3 kR) (byts_kept hb19_3 kR) (byts_kept hb22_3 kR) HNEW.out HLEN.out HPOS.out).mono ?_
          rintro e Y9 ⟨v9, rfl, ho9, hk9⟩
          have hm9 := hR.trans hk9
          obtain ⟨a9, c9, rfl, _⟩ := byts_val ho9.byts
          refine hK.out _ _ ⟨hm9.cellAt x0 (fun h => h), hm9.cellAt x1 (fun h => h), hm9⟩ (fun hS => ?_)
          clear hK K
          refine wpAnyH_ready (rs := [10]) (by kernel_rfl) (by simp) ?_
          refine AllReadyH.cons rfl (fun K hK => ?_) AllReadyH.nil
          go_simp
          refine hK.out _ _ ⟨hm9.cellAt x0 (fun h => h), hm9.cellAt x1 (fun h => h), hm9⟩ (fun hS => ?_)
          clear hK K
          refine wpAnyH_done (by kernel_rfl) ?_ _
          have HO3 := Lib.hid (ho9.mono (B' := w.heap.size) (by have := HMx.out.size; have := hR.size; omega))
          have HM3 := Lib.hid (HMx.out.trans hm9)
          clear ho9 hm9 hk9 hR bR kR hS
          rw [HLL.out] at HO3 ⊢
          go_wp2
          go_roundw
          case rel => exact ⟨k + 1, by omega, by go_num, a9, c9, rfl, ⟨HO3.out, HM3.out⟩⟩
          case measure => simp [intOf]; omega
        · go_simp
          refine (HT2.out Y1 hm1).mono ?_
          rintro e Y2 ⟨v2, rfl, ho2, hk2⟩
          have hm2 := hm1.trans hk2
          have hb19_2 := byts_kept hb19_1 hk2
          have hb22_2 := ho2.byts
          obtain ⟨a2, c2, rfl, _⟩ := byts_val hb22_2
          refine hK.out _ _ ⟨hm2.cellAt x0 (fun h => h), hm2.cellAt x1 (fun h => h), hm2⟩ (fun hS => ?_)
          clear hK K
          refine wpAnyH_ready (rs := [1]) (by kernel_rfl) (by simp) ?_
          refine AllReadyH.cons rfl (fun K hK => ?_) AllReadyH.nil
          go_simp
          have hk3 : Mod (fun _ => False) Y2 (Y2.alloc (.cells #[.int .u8 32] 5)) := (Mod.refl _ _).alloc _
          have hm3 := hm2.trans hk3
          have hb19_3 := byts_kept hb19_2 hk3
          have hb22_3 := byts_kept hb22_2 hk3
          have hb16_3 := byts_lit Y2 [32] #[.int .u8 32] 1 rfl rfl (by decide)
          refine hK.out _ _ ⟨hm3.cellAt x0 (fun h => h), hm3.cellAt x1 (fun h => h), hm3⟩ (fun hS => ?_)
          clear hK K
          have hR := hm3.alloc (.cells #[.slice ap n0 cp, .slice (some ⟨Y2.heap.size, 0, none⟩) 1 1, .slice a1 (textL s.n).length c1, .slice a2 (textL s.v).length c2] 24)
          have bR := Blk.new (Y2.alloc (.cells #[.int .u8 32] 5)) #[.slice ap n0 cp, .slice (some ⟨Y2.heap.size, 0, none⟩) 1 1, .slice a1 (textL s.n).length c1, .slice a2 (textL s.v).length c2] 24
          rw [show (Y2.alloc (.cells #[.int .u8 32] 5)).heap.size = Y2.heap.size + 1 by simp] at bR
          have kR : Mod (fun _ => False) (Y2.alloc (.cells #[.int .u8 32] 5)) ((Y2.alloc (.cells #[.int .u8 32] 5)).alloc (.cells #[.slice ap n0 cp, .slice (some ⟨Y2.heap.size, 0, none⟩) 1 1, .slice a1 (textL s.n).length c1, .slice a2 (textL s.v).length c2] 24)) := (Mod.refl _ _).alloc _
          refine wpAnyH_ready (rs := [8]) (by kernel_rfl) (by simp) ?_
          refine AllReadyH.cons rfl (fun K hK => ?_) AllReadyH.nil
          go_simp
          refine hK.out _ _ ⟨hR.cellAt x0 (fun h => h), hR.cellAt x1 (fun h => h), hR⟩ (fun hS => ?_)
          clear hK K
          refine wpAnyH_ready (rs := [9]) (by kernel_rfl) (by simp) ?_
          refine AllReadyH.cons rfl (fun K hK => ?_) AllReadyH.nil
          go_simp
          refine (concat4 bR (byts_kept HACCB.out hR) (byts_kept hb16_3 kR) (byts_kept hb19_3 kR) (byts_kept hb22_3 kR) HNEW.out HLEN.out HPOS.out).mono ?_
          rintro e Y9 ⟨v9, rfl, ho9, hk9⟩
          have hm9 := hR.trans hk9
          obtain ⟨a9, c9, rfl, _⟩ := byts_val ho9.byts
          refine hK.out _ _ ⟨hm9.cellAt x0 (fun h => h), hm9.cellAt x1 (fun h => h), hm9⟩ (fun hS => ?_)
          clear hK K
          refine wpAnyH_ready (rs := [10]) (by kernel_rfl) (by simp) ?_
          refine AllReadyH.cons rfl (fun K hK => ?_) AllReadyH.nil
          go_simp
          refine hK.out _ _ ⟨hm9.cellAt x0 (fun h => h), hm9.cellAt x1 (fun h => h), hm9⟩ (fun hS => ?_)
          clear hK K
          refine wpAnyH_done (by kernel_rfl) ?_ _
          have HO3 := Lib.hid (ho9.mono (B' := w.heap.size) (by have := HMx.out.size; have := hR.size; omega))
          have HM3 := Lib.hid (HMx.out.trans hm9)
          clear ho9 hm9 hk9 hR bR kR hS
          rw [HLL.out] at HO3 ⊢
          go_wp2
          go_roundw
          case rel => exact ⟨k + 1, by omega, by go_num, a9, c9, rfl, ⟨HO3.out, HM3.out⟩⟩
          case measure => simp [intOf]; omega
    · have hkn' : k = n := by omega
      have hall : l.take k = l := List.take_of_length_le (by have := HN.out; omega)
      rw [hall] at HR ⊢
      obtain ⟨L, hL⟩ : ∃ x, x = secL l := ⟨_, rfl⟩
      rw [← hL] at HR ⊢
      have HL := Lib.hid hL
      clear hL
      generalize L.length = nL at *
      go_wp2
      go_ret
      exact ⟨_, rfl, by rw [← HL.out]; exact HR.out.1, HR.out.2⟩
end Go.Proofs.YtcnpiclpdgkngaaDoor
