/- Parts of the proof: YfU UaN UaO. -/
import Derived.Test.YtahgidkpjmecdaaGreatDoorB22
import Derived.Test.YtahgidkpjmecdaaGreatDoorB23
import Derived.Test.YtahgidkpjmecdaaGreatDoorB25
set_option maxRecDepth 100000
namespace Go.Proofs.YtahgidkpjmecdaaGreatDoor
open Go.RowKit
def lenOfV : Value → Nat
 | .slice _ n _ => n
 | _ => 0
theorem mod_put2 (X : World) (fb : Nat) (v1 v2 : Value) : Mod (fun j => j = fb) X ((X.setCell ⟨fb, 0, none⟩ v1).setCell ⟨fb, 1, none⟩ v2) :=
 Mod.setCell (S := fun j => j = fb) (Mod.setCell (S := fun j => j = fb) (Mod.refl _ _) (p := ⟨fb, 0, none⟩) (fun _ => rfl) _) (p := ⟨fb, 1, none⟩) (fun _ => rfl) _
set_option maxHeartbeats 8000000 in
set_option maxRecDepth 10000 in
theorem unpack_any {w : World} {v : Value} {b : List UInt8} (hU : UTabs w) (hv : Byts w v b) (hl : (b.length : Int) ≤ 100000) :
  Calls Tryz.prog 200 #[v] w fun e w' => ∃ v', e = .returned (.tuple #[v', .int .i64 (unpackL 34 [] ⟨b, 0⟩).2]) ∧ OwnF w' w.heap.size v' (unpackL 34 [] ⟨b, 0⟩).1 ∧ Mod (fun _ => False) w w' := by
 obtain ⟨R, hR⟩ : ∃ x, x = unpackL 34 [] ⟨b, 0⟩ := ⟨_, rfl⟩
 rw [← hR]
 have HRR0 : Hid (unpackL (34 - 0) [] ⟨b, 0⟩ = R) := hR.symm
 have HV := Lib.hid (read_any hv (by omega))
 have HUT := Lib.hid hU
 have HLB := Lib.hid hl
 obtain ⟨a, cap, rfl, _⟩ := byts_val hv
 clear hR hv hU hl
 generalize hbl : b.length = bl at *
 have HBL := Lib.hid hbl
 clear hbl
 go_enter Tryz.func200, Tryz.ntmps200
 go_wp2_with fail
 refine (HV.out).mono ?_
 rintro e w1 ⟨rb, rfl, hrb, hr, hM⟩
 have HS0 : Hid (URd w w1 rb (.slice none 0 0) [] ⟨b, 0⟩) := ⟨hr, OwnF.nil _ _, hM, hrb⟩
 have HLE0 : Hid (((⟨b, 0⟩ : RS).l.length : Int) ≤ 100000) := by show _ ≤ _; have := HLB.out; have := HBL.out; simp only; omega
 generalize (⟨b, 0⟩ : RS) = s0 at *
 clear hr hM hrb HV HLB HBL
 go_wp2
 go_loopw [4] (fun s4 wr => ∃ k ap cp, s4 = .slice ap k cp ∧ k ≤ 32 ∧ ∃ acc s, Hid (acc.length = k) ∧ Hid (fieldsB acc = true) ∧ Hid (URd w wr rb (.slice ap k cp) acc s) ∧ Hid ((s.l.length : Int) ≤ 100000) ∧ Hid (unpackL (34 - k) acc s = R)) (fun s4 _ => 40 - lenOfV s4)
 case atStart => exact ⟨0, none, 0, rfl, by omega, [], s0, rfl, rfl, HS0, HLE0, HRR0⟩
 case round =>
  clear HS0 HRR0 HLE0
  obtain ⟨k, ap, cp, rfl, hk, acc, s, HA, HG, HS, HLE, HRR⟩ := hrel
  have hleft := left_any HS.out.rd
  by_cases hs : s.l = []
  ·have hl0 : ((s.l.length : Nat) : Int) = 0 := by simp [hs]
   rw [hl0] at hleft
   have HFIN : Hid (R = (acc, 0)) := by
    show _ = _
    rw [← HRR.out, show 34 - k = (33 - k) + 1 by omega]
    exact unpack_nil hs
   clear hl0 hs
   go_wp2_with (first | (go_at_call 79; refine (hleft).mono ?_; rintro e w' ⟨rfl, rfl⟩) | fail)
   go_ret2
   rw [HFIN.out]
   exact ⟨_, rfl, HS.out.own, HS.out.mod⟩
  ·have hl1 : (0 : Int) < ((s.l.length : Nat) : Int) := by
    have : 0 < s.l.length := by cases h : s.l with | nil => exact absurd h hs | cons => simp
    omega
   have hl0 : decide ((0 : Int) < ((s.l.length : Nat) : Int)) = true := decide_eq_true hl1
   generalize hsl : (s.l.length : Int) = sl at *
   have HSL := Lib.hid hsl
   have HNE := Lib.hid hs
   have HB := Lib.hid (byte_any HS.out.rd)
   obtain ⟨c, s1, h1⟩ : ∃ c s1, s.byte = (c, s1) := ⟨_, _, rfl⟩
   obtain ⟨ia, s2, h2⟩ : ∃ c s1', s1.int = (c, s1') := ⟨_, _, rfl⟩
   obtain ⟨nm, s3, h3⟩ : ∃ c s1', s2.bytes ia = (c, s1') := ⟨_, _, rfl⟩
   obtain ⟨ib, s4, h4⟩ : ∃ c s1', s3.int = (c, s1') := ⟨_, _, rfl⟩
   obtain ⟨vl, s5, h5⟩ : ∃ c s1', s4.bytes ib = (c, s1') := ⟨_, _, rfl⟩
   have HSTEP : Hid (R = if c ≠ 32 then ([], 3) else if s5.e ≠ 0 then ([], s5.e) else if fieldsB (acc ++ [⟨nm, vl⟩]) = false then ([], 3) else unpackL (33 - k) (acc ++ [⟨nm, vl⟩]) s5) := by
    show _ = _
    rw [← HRR.out, show 34 - k = (33 - k) + 1 by omega]
    exact unpack_step hs h1 h2 h3 h4 h5
   have HLEN : Hid ((s5.l.length : Int) ≤ 100000 ∧ (nm.length : Int) ≤ 100000 ∧ (vl.length : Int) ≤ 100000) := by
    have e1 := (bytes_len s 1).1
    have e1' : s.byte.2 = (s.bytes 1).2 := rfl
    rw [h1] at e1'
    simp only at e1'
    rw [← e1'] at e1
    have e2 := int_len s1
    have e3 := bytes_len s2 ia
    have e4 := int_len s3
    have e5 := bytes_len s4 ib
    rw [h2] at e2
    rw [h3] at e3
    rw [h4] at e4
    rw [h5] at e5
    have := HLE.out
    show _ ∧ _ ∧ _
    simp only at e2 e3 e4 e5
    omega
   rw [h1] at HB
   simp only at HB
   have HI1 := Lib.hid (fun (X : World) (h : Rdr X rb s1) => int_any h)
   rw [h2] at HI1
   have HY1 := Lib.hid (fun (X : World) (h : Rdr X rb s2) => bytes_any ia h)
   rw [h3] at HY1
   have HI2 := Lib.hid (fun (X : World) (h : Rdr X rb s3) => int_any h)
   rw [h4] at HI2
   have HY2 := Lib.hid (fun (X : World) (h : Rdr X rb s4) => bytes_any ib h)
   rw [h5] at HY2
   simp only at HI1 HY1 HI2 HY2
   have hc : (c.toNat : Int) ≤ 255 := by have := c.toNat_lt; omega
   have HC : Hid (c = 32 ↔ (c.toNat : Int) = 32) := by
    show _ ↔ _
    constructor
    ·rintro rfl; rfl
    ·intro h; apply UInt8.toNat_inj.1; show c.toNat = 32; omega
   clear h1 h2 h3 h4 h5 hs hsl HRR
   generalize (c.toNat : Int) = z at *
   go_wp2_with (first | (go_at_call 79; refine (hleft).mono ?_; rintro e w' ⟨rfl, rfl⟩) | fail)
   refine (HB.out).mono ?_
   rintro e w2 ⟨rfl, hr2, hM2⟩
   have HS2 := Lib.hid (HS.out.step hr2 hM2)
   clear hr2 hM2 HB hleft hl0
   by_cases hz : z = 32
   ·subst hz
    have HC1 : Hid (¬ c ≠ 32) := by show ¬ _; simp [HC.out]
    rw [if_neg HC1.out] at HSTEP
    clear HC HC1
    go_wp2_with fail
    refine (HI1.out _ HS2.out.rd).mono ?_
    rintro e w3 ⟨rfl, hr3, hM3⟩
    have HS3 := Lib.hid (HS2.out.step hr3 hM3)
    clear hr3 hM3 HS2
    go_wp2_with fail
    refine (HY1.out _ HS3.out.rd).mono ?_
    rintro e wx ⟨vn, rfl, hon, hr4, hM4⟩
    have HS4 := Lib.hid (HS3.out.step hr4 hM4)
    have HN4 := Lib.hid (OwnB.mono hon (Nat.zero_le _))
    obtain ⟨an, cn, rfl, _⟩ := byts_val hon.byts
    clear hr4 hM4 hon HS3 HI1 HY1
    generalize hnn : nm.length = nn at *
    have HNN := Lib.hid hnn
    clear hnn
    go_wp2_with fail
    obtain ⟨st1, hst1⟩ : ∃ x, x = ByteArray.mk nm.toArray := ⟨_, rfl⟩
    obtain ⟨st2, hst2⟩ : ∃ x, x = ByteArray.mk vl.toArray := ⟨_, rfl⟩
    have hcv1 : ∀ X v, Byts X v nm → (convert 31 9 v).run Tryz.prog X = .ok (.string st1) X := fun X v h => by rw [hst1]; exact conv_any h
    have hcv2 : ∀ X v, Byts X v vl → (convert 31 9 v).run Tryz.prog X = .ok (.string st2) X := fun X v h => by rw [hst2]; exact conv_any h
    have HST1 := Lib.hid hst1
    have HST2 := Lib.hid hst2
    clear hst1 hst2
    have hd : Mod (fun _ => False) wx wx.drew := (Mod.refl _ _).drew
    have u0 := HS4.out.still hd
    have n0 := HN4.out.keptF hd
    refine wp_region_held_drew (S := fun X => Byts X (.slice an nn cn) nm) (by kernel_rfl) n0.byts (fun hS => ?_)
    refine wpAnyH_take (i := 0) (v := .slice an nn cn) rfl (by kernel_rfl) (by kernel_rfl) (by kernel_rfl) (fun _ _ _ h => h) (Or.inl ⟨by rfl, fun X hX => ?_⟩) hS ?_
    ·go_simp
    refine wpAnyH_take (i := 1) (v := .string st1) rfl (by kernel_rfl) (by kernel_rfl) (by kernel_rfl) (fun _ _ _ h => h) (Or.inl ⟨by rfl, fun X hX => ?_⟩) hS ?_
    ·have := hcv1 _ _ hX; go_simp
    refine wpAnyH_take (i := 2) (v := .pointer (some ⟨rb, 0, none⟩)) rfl (by kernel_rfl) (by kernel_rfl) (by kernel_rfl) (fun _ _ _ h => h) (Or.inl ⟨by rfl, fun X hX => ?_⟩) hS ?_
    ·go_simp
    refine wpAnyH_take (i := 3) (v := .pointer (some ⟨rb, 0, none⟩)) rfl (by kernel_rfl) (by kernel_rfl) (by kernel_rfl) (fun _ _ _ h => h) (Or.inl ⟨by rfl, fun X hX => ?_⟩) hS ?_
    ·go_simp
    refine wpAnyH_ready (rs := [4, 8]) (by kernel_rfl) (by simp) ?_
    refine (AllReadyH.cons rfl (fun K hK => ?_) (AllReadyH.cons rfl (fun K hK => ?_) AllReadyH.nil))
    ·go_simp
     refine (HI2.out _ u0.rd).mono ?_
     rintro e Y1 ⟨rfl, hr1, hk1⟩
     have u1 := u0.step hr1 hk1
     have n1 := n0.rdr u0.rd hk1
     refine hK.out _ _ n1.byts (fun hS => ?_)
     clear hK K
     refine wpAnyH_ready (rs := [5, 8]) (by kernel_rfl) (by simp) ?_
     refine (AllReadyH.cons rfl (fun K hK => ?_) (AllReadyH.cons rfl (fun K hK => ?_) AllReadyH.nil))
     ·go_simp
      refine (HY2.out _ u1.rd).mono ?_
      rintro e Y2 ⟨v2, rfl, ho2, hr2, hk2⟩
      have u2 := u1.step hr2 hk2
      have n2 := n1.rdr u1.rd hk2
      obtain ⟨av, cv, rfl, _⟩ := byts_val ho2.byts
      have o2 := OwnB.mono ho2 (Nat.zero_le _)
      refine hK.out _ _ n2.byts (fun hS => ?_)
      clear hK K
      refine wpAnyH_ready (rs := [6, 8]) (by kernel_rfl) (by simp) ?_
      refine (AllReadyH.cons rfl (fun K hK => ?_) (AllReadyH.cons rfl (fun K hK => ?_) AllReadyH.nil))
      ·have hc6 := hcv2 _ _ o2.byts
       go_simp
       clear hc6
       refine hK.out _ _ n2.byts (fun hS => ?_)
       clear hK K
       refine wpAnyH_take (i := 7) (v := .agg #[.string st1, .string st2]) rfl (by kernel_rfl) (by kernel_rfl) (by kernel_rfl) (fun _ _ _ h => h) (Or.inl ⟨by rfl, fun X hX => ?_⟩) hS ?_
       ·go_simp
       refine wpAnyH_ready (rs := [8]) (by kernel_rfl) (by simp) ?_
       refine (AllReadyH.cons rfl (fun K hK => ?_) AllReadyH.nil)
       go_simp
       have k4 : Mod (fun _ => False) Y2 (Y2.alloc (.cells #[.string ⟨#[]⟩, .string ⟨#[]⟩] 39)) := (Mod.refl _ _).alloc _
       have b4 : Blk (Y2.alloc (.cells #[.string ⟨#[]⟩, .string ⟨#[]⟩] 39)) Y2.heap.size #[.string ⟨#[]⟩, .string ⟨#[]⟩] 39 := Blk.new Y2 _ _
       have lt4 := u2.lt
       have z4 := u2.mod.size
       have u4 := u2.still k4
       have n4 := n2.keptF k4
       have o4 := o2.keptF k4
       refine hK.out _ _ n4.byts (fun hS => ?_)
       clear hK K
       refine wpAnyH_ready (rs := [9]) (by kernel_rfl) (by simp) ?_
       refine (AllReadyH.cons rfl (fun K hK => ?_) AllReadyH.nil)
       have c0 := b4.cellAt 0 rfl
       have c1 := b4.cellAt 1 rfl
       have f0 := b4.free 0
       have f1 := b4.free 1
       go_simp
       clear c0 c1 f0 f1
       have kZ : Mod (fun _ => False) Y2 (Y2.alloc (.cells #[.string st1, .string st2] 39)) := (Mod.refl _ _).alloc _
       have bZ : Blk (Y2.alloc (.cells #[.string st1, .string st2] 39)) Y2.heap.size #[.string st1, .string st2] 39 := Blk.new Y2 _ _
       have HU9 := Lib.hid (u2.still kZ)
       have HB9 := Lib.hid bZ
       refine hK.out _ _ (n2.keptF kZ).byts (fun hS => ?_)
       clear hK K
       refine wpAnyH_done (by kernel_rfl) ?_ _
       clear hS kZ bZ hd
       generalize (Y2.alloc (.cells #[.string st1, .string st2] 39)) = Z at *
       generalize Y2.heap.size = fb at *
       have hb := bad_any HU9.out.rd
       by_cases he : s5.e = 0
       ·rw [he] at hb
        rw [if_neg (by simp [he])] at HSTEP
        clear he
        obtain ⟨L, hL⟩ : ∃ x, x = acc ++ [(⟨nm, vl⟩ : Fd)] := ⟨_, rfl⟩
        rw [← hL] at HSTEP
        have HLL := Lib.hid hL
        have HFL : Hid (FldV (Z.alloc (.cells #[.string st1, .string st2] 39)) (.slice (some ⟨Z.heap.size, 0, none⟩) 1 1) [⟨nm, vl⟩]) := by
         show FldV _ _ _
         rw [HST1.out, HST2.out]
         exact fld_one Z ⟨nm, vl⟩
        have HZ : Hid (w.heap.size ≤ (Z.alloc (.cells #[.string st1, .string st2] 39)).heap.size) := (HU9.out.mod.alloc _).size
        have HOK : Hid (FdsOk L) := by
         show FdsOk L
         rw [hL]
         intro f hf
         rcases List.mem_append.1 hf with h | h
         ·have := (fds_good HG.out).2 f h
          omega
         ·have := List.mem_singleton.1 h
          subst this
          exact ⟨by have := HLEN.out.2.1; rw [← HNN.out] at this; exact this, HLEN.out.2.2⟩
        have HLK : Hid (L.length = k + 1) := by show _ = _; rw [hL]; simp [HA.out]
        clear hL
        go_wp2_with (first
         | (go_at_call 122; refine hb.mono ?_; rintro e w' ⟨rfl, rfl⟩)
         | ((with_reducible refine wpList_load_blk ?_ 39 (.tmp 7) ?_ fb ?_ #[.string st1, .string st2] 39 _ HB9.out Tryz.underlying39 rfl (size52 _ _) ?_); (iterate 3 exact rfl))
         | ((with_reducible refine wpList_append_f ?_ (.tmp 33) (.tmp 35) ?_ (.slice ap k cp) acc w.heap.size ?_ (HU9.out.own.alloc _) (.slice (some ⟨Z.heap.size, 0, none⟩) 1 1) [⟨nm, vl⟩] ?_ HFL.out (k + 1) ?_ ?_ HZ.out L HLL.out ?_); (iterate 4 exact rfl); (· have := HA.out; simp only [List.length_cons, List.length_nil]; omega); (· omega); intro ap2 cp2 Y ho hg; have HU10 := Lib.hid ((HU9.out.still ((Mod.refl (fun _ => False) Z).alloc _)).app hg ho); clear ho hg)
         | fail)
        have HX := Lib.hid (flds_any (l := L) (HUT.out.kept HU10.out.mod) (by have := HU10.out.own.fldv; exact this) (by have := HLK.out; omega) HOK.out)
        generalize hB : fieldsB L = B at *
        refine (HX.out).mono ?_
        rintro e w5 ⟨rfl, hM5⟩
        have HU11 := Lib.hid (HU10.out.still hM5)
        clear hM5 HX
        cases B
        ·rw [if_pos rfl] at HSTEP
         go_wp2
         go_ret2
         rw [HSTEP.out]
         exact ⟨_, rfl, OwnF.nil _ _, HU11.out.mod⟩
        ·rw [if_neg (by simp)] at HSTEP
         have h32 := (fds_good hB).1
         have HBB := Lib.hid hB
         clear hB
         go_wp2
         go_roundw
         case rel => exact ⟨k + 1, ap2, cp2, rfl, by have := HLK.out; omega, L, s5, HLK, HBB, HU11, HLEN.out.1, by show _ = _; rw [show 34 - (k + 1) = 33 - k by omega]; exact HSTEP.out.symm⟩
         case measure => simp [lenOfV]; omega
       ·rw [if_pos he] at HSTEP
        have he1 : (s5.e == 0) = false := by simpa using he
        clear he
        generalize s5.e = e5 at *
        go_wp2_with (first
         | (go_at_call 122; refine hb.mono ?_; rintro e w' ⟨rfl, rfl⟩)
         | fail)
        go_ret2
        rw [HSTEP.out]
        exact ⟨_, rfl, OwnF.nil _ _, HU9.out.mod⟩
      ·go_simp
       have k3 : Mod (fun _ => False) Y2 (Y2.alloc (.cells #[.string ⟨#[]⟩, .string ⟨#[]⟩] 39)) := (Mod.refl _ _).alloc _
       have b3 : Blk (Y2.alloc (.cells #[.string ⟨#[]⟩, .string ⟨#[]⟩] 39)) Y2.heap.size #[.string ⟨#[]⟩, .string ⟨#[]⟩] 39 := Blk.new Y2 _ _
       have lt3 := u2.lt
       have z3 := u2.mod.size
       have u3 := u2.still k3
       have n3 := n2.keptF k3
       have o3 := o2.keptF k3
       refine hK.out _ _ n3.byts (fun hS => ?_)
       clear hK K
       refine wpAnyH_ready (rs := [6]) (by kernel_rfl) (by simp) ?_
       refine (AllReadyH.cons rfl (fun K hK => ?_) AllReadyH.nil)
       have hc6 := hcv2 _ _ o3.byts
       go_simp
       clear hc6
       refine hK.out _ _ n3.byts (fun hS => ?_)
       clear hK K
       refine wpAnyH_take (i := 7) (v := .agg #[.string st1, .string st2]) rfl (by kernel_rfl) (by kernel_rfl) (by kernel_rfl) (fun _ _ _ h => h) (Or.inl ⟨by rfl, fun X hX => ?_⟩) hS ?_
       ·go_simp
       refine wpAnyH_ready (rs := [9]) (by kernel_rfl) (by simp) ?_
       refine (AllReadyH.cons rfl (fun K hK => ?_) AllReadyH.nil)
       have c0 := b3.cellAt 0 rfl
       have c1 := b3.cellAt 1 rfl
       have f0 := b3.free 0
       have f1 := b3.free 1
       go_simp
       clear c0 c1 f0 f1
       have kZ : Mod (fun _ => False) Y2 (Y2.alloc (.cells #[.string st1, .string st2] 39)) := (Mod.refl _ _).alloc _
       have bZ : Blk (Y2.alloc (.cells #[.string st1, .string st2] 39)) Y2.heap.size #[.string st1, .string st2] 39 := Blk.new Y2 _ _
       have HU9 := Lib.hid (u2.still kZ)
       have HB9 := Lib.hid bZ
       refine hK.out _ _ (n2.keptF kZ).byts (fun hS => ?_)
       clear hK K
       refine wpAnyH_done (by kernel_rfl) ?_ _
       clear hS kZ bZ hd
       generalize (Y2.alloc (.cells #[.string st1, .string st2] 39)) = Z at *
       generalize Y2.heap.size = fb at *
       have hb := bad_any HU9.out.rd
       by_cases he : s5.e = 0
       ·rw [he] at hb
        rw [if_neg (by simp [he])] at HSTEP
        clear he
        obtain ⟨L, hL⟩ : ∃ x, x = acc ++ [(⟨nm, vl⟩ : Fd)] := ⟨_, rfl⟩
        rw [← hL] at HSTEP
        have HLL := Lib.hid hL
        have HFL : Hid (FldV (Z.alloc (.cells #[.string st1, .string st2] 39)) (.slice (some ⟨Z.heap.size, 0, none⟩) 1 1) [⟨nm, vl⟩]) := by
         show FldV _ _ _
         rw [HST1.out, HST2.out]
         exact fld_one Z ⟨nm, vl⟩
        have HZ : Hid (w.heap.size ≤ (Z.alloc (.cells #[.string st1, .string st2] 39)).heap.size) := (HU9.out.mod.alloc _).size
        have HOK : Hid (FdsOk L) := by
         show FdsOk L
         rw [hL]
         intro f hf
         rcases List.mem_append.1 hf with h | h
         ·have := (fds_good HG.out).2 f h
          omega
         ·have := List.mem_singleton.1 h
          subst this
          exact ⟨by have := HLEN.out.2.1; rw [← HNN.out] at this; exact this, HLEN.out.2.2⟩
        have HLK : Hid (L.length = k + 1) := by show _ = _; rw [hL]; simp [HA.out]
        clear hL
        go_wp2_with (first
         | (go_at_call 122; refine hb.mono ?_; rintro e w' ⟨rfl, rfl⟩)
         | ((with_reducible refine wpList_load_blk ?_ 39 (.tmp 7) ?_ fb ?_ #[.string st1, .string st2] 39 _ HB9.out Tryz.underlying39 rfl (size52 _ _) ?_); (iterate 3 exact rfl))
         | ((with_reducible refine wpList_append_f ?_ (.tmp 33) (.tmp 35) ?_ (.slice ap k cp) acc w.heap.size ?_ (HU9.out.own.alloc _) (.slice (some ⟨Z.heap.size, 0, none⟩) 1 1) [⟨nm, vl⟩] ?_ HFL.out (k + 1) ?_ ?_ HZ.out L HLL.out ?_); (iterate 4 exact rfl); (· have := HA.out; simp only [List.length_cons, List.length_nil]; omega); (· omega); intro ap2 cp2 Y ho hg; have HU10 := Lib.hid ((HU9.out.still ((Mod.refl (fun _ => False) Z).alloc _)).app hg ho); clear ho hg)
         | fail)
        have HX := Lib.hid (flds_any (l := L) (HUT.out.kept HU10.out.mod) (by have := HU10.out.own.fldv; exact this) (by have := HLK.out; omega) HOK.out)
        generalize hB : fieldsB L = B at *
        refine (HX.out).mono ?_
        rintro e w5 ⟨rfl, hM5⟩
        have HU11 := Lib.hid (HU10.out.still hM5)
        clear hM5 HX
        cases B
        ·rw [if_pos rfl] at HSTEP
         go_wp2
         go_ret2
         rw [HSTEP.out]
         exact ⟨_, rfl, OwnF.nil _ _, HU11.out.mod⟩
        ·rw [if_neg (by simp)] at HSTEP
         have h32 := (fds_good hB).1
         have HBB := Lib.hid hB
         clear hB
         go_wp2
         go_roundw
         case rel => exact ⟨k + 1, ap2, cp2, rfl, by have := HLK.out; omega, L, s5, HLK, HBB, HU11, HLEN.out.1, by show _ = _; rw [show 34 - (k + 1) = 33 - k by omega]; exact HSTEP.out.symm⟩
         case measure => simp [lenOfV]; omega
       ·rw [if_pos he] at HSTEP
        have he1 : (s5.e == 0) = false := by simpa using he
        clear he
        generalize s5.e = e5 at *
        go_wp2_with (first
         | (go_at_call 122; refine hb.mono ?_; rintro e w' ⟨rfl, rfl⟩)
         | fail)
        go_ret2
        rw [HSTEP.out]
        exact ⟨_, rfl, OwnF.nil _ _, HU9.out.mod⟩
     ·go_simp
      have k2 : Mod (fun _ => False) Y1 (Y1.alloc (.cells #[.string ⟨#[]⟩, .string ⟨#[]⟩] 39)) := (Mod.refl _ _).alloc _
      have b2 : Blk (Y1.alloc (.cells #[.string ⟨#[]⟩, .string ⟨#[]⟩] 39)) Y1.heap.size #[.string ⟨#[]⟩, .string ⟨#[]⟩] 39 := Blk.new Y1 _ _
      have lt2 := u1.lt
      have z2 := u1.mod.size
      have u2 := u1.still k2
      have n2 := n1.keptF k2
      refine hK.out _ _ n2.byts (fun hS => ?_)
      clear hK K
      refine wpAnyH_ready (rs := [5]) (by kernel_rfl) (by simp) ?_
      refine (AllReadyH.cons rfl (fun K hK => ?_) AllReadyH.nil)
      go_simp
      refine (HY2.out _ u2.rd).mono ?_
      rintro e Y3 ⟨v3, rfl, ho3, hr3, hk3⟩
      have u3 := u2.step hr3 hk3
      have n3 := n2.rdr u2.rd hk3
      have b3 := hk3.blk b2 (rdr_ne u2.rd b2 (by decide))
      obtain ⟨av, cv, rfl, _⟩ := byts_val ho3.byts
      have o3 := OwnB.mono ho3 (Nat.zero_le _)
      refine hK.out _ _ n3.byts (fun hS => ?_)
      clear hK K
      refine wpAnyH_ready (rs := [6]) (by kernel_rfl) (by simp) ?_
      refine (AllReadyH.cons rfl (fun K hK => ?_) AllReadyH.nil)
      have hc6 := hcv2 _ _ o3.byts
      go_simp
      clear hc6
      refine hK.out _ _ n3.byts (fun hS => ?_)
      clear hK K
      refine wpAnyH_take (i := 7) (v := .agg #[.string st1, .string st2]) rfl (by kernel_rfl) (by kernel_rfl) (by kernel_rfl) (fun _ _ _ h => h) (Or.inl ⟨by rfl, fun X hX => ?_⟩) hS ?_
      ·go_simp
      refine wpAnyH_ready (rs := [9]) (by kernel_rfl) (by simp) ?_
      refine (AllReadyH.cons rfl (fun K hK => ?_) AllReadyH.nil)
      have c0 := b3.cellAt 0 rfl
      have c1 := b3.cellAt 1 rfl
      have f0 := b3.free 0
      have f1 := b3.free 1
      go_simp
      clear c0 c1 f0 f1
      have kZ : Mod (fun j => j = Y1.heap.size) Y3 ((Y3.setCell ⟨Y1.heap.size, 0, none⟩ (.string st1)).setCell ⟨Y1.heap.size, 1, none⟩ (.string st2)) := mod_put2 _ _ _ _
      have bZ : Blk ((Y3.setCell ⟨Y1.heap.size, 0, none⟩ (.string st1)).setCell ⟨Y1.heap.size, 1, none⟩ (.string st2)) Y1.heap.size #[.string st1, .string st2] 39 := (b3.set 0 (.string st1)).set 1 (.string st2)
      have HU9 := Lib.hid (u3.put b3 lt2 kZ z2)
      have HB9 := Lib.hid bZ
      refine hK.out _ _ (n3.fput b3 kZ).byts (fun hS => ?_)
      clear hK K
      refine wpAnyH_done (by kernel_rfl) ?_ _
      clear hS kZ bZ hd
      generalize ((Y3.setCell ⟨Y1.heap.size, 0, none⟩ (.string st1)).setCell ⟨Y1.heap.size, 1, none⟩ (.string st2)) = Z at *
      generalize Y1.heap.size = fb at *
      have hb := bad_any HU9.out.rd
      by_cases he : s5.e = 0
      ·rw [he] at hb
       rw [if_neg (by simp [he])] at HSTEP
       clear he
       obtain ⟨L, hL⟩ : ∃ x, x = acc ++ [(⟨nm, vl⟩ : Fd)] := ⟨_, rfl⟩
       rw [← hL] at HSTEP
       have HLL := Lib.hid hL
       have HFL : Hid (FldV (Z.alloc (.cells #[.string st1, .string st2] 39)) (.slice (some ⟨Z.heap.size, 0, none⟩) 1 1) [⟨nm, vl⟩]) := by
        show FldV _ _ _
        rw [HST1.out, HST2.out]
        exact fld_one Z ⟨nm, vl⟩
       have HZ : Hid (w.heap.size ≤ (Z.alloc (.cells #[.string st1, .string st2] 39)).heap.size) := (HU9.out.mod.alloc _).size
       have HOK : Hid (FdsOk L) := by
        show FdsOk L
        rw [hL]
        intro f hf
        rcases List.mem_append.1 hf with h | h
        ·have := (fds_good HG.out).2 f h
         omega
        ·have := List.mem_singleton.1 h
         subst this
         exact ⟨by have := HLEN.out.2.1; rw [← HNN.out] at this; exact this, HLEN.out.2.2⟩
       have HLK : Hid (L.length = k + 1) := by show _ = _; rw [hL]; simp [HA.out]
       clear hL
       go_wp2_with (first
        | (go_at_call 122; refine hb.mono ?_; rintro e w' ⟨rfl, rfl⟩)
        | ((with_reducible refine wpList_load_blk ?_ 39 (.tmp 7) ?_ fb ?_ #[.string st1, .string st2] 39 _ HB9.out Tryz.underlying39 rfl (size52 _ _) ?_); (iterate 3 exact rfl))
        | ((with_reducible refine wpList_append_f ?_ (.tmp 33) (.tmp 35) ?_ (.slice ap k cp) acc w.heap.size ?_ (HU9.out.own.alloc _) (.slice (some ⟨Z.heap.size, 0, none⟩) 1 1) [⟨nm, vl⟩] ?_ HFL.out (k + 1) ?_ ?_ HZ.out L HLL.out ?_); (iterate 4 exact rfl); (· have := HA.out; simp only [List.length_cons, List.length_nil]; omega); (· omega); intro ap2 cp2 Y ho hg; have HU10 := Lib.hid ((HU9.out.still ((Mod.refl (fun _ => False) Z).alloc _)).app hg ho); clear ho hg)
        | fail)
       have HX := Lib.hid (flds_any (l := L) (HUT.out.kept HU10.out.mod) (by have := HU10.out.own.fldv; exact this) (by have := HLK.out; omega) HOK.out)
       generalize hB : fieldsB L = B at *
       refine (HX.out).mono ?_
       rintro e w5 ⟨rfl, hM5⟩
       have HU11 := Lib.hid (HU10.out.still hM5)
       clear hM5 HX
       cases B
       ·rw [if_pos rfl] at HSTEP
        go_wp2
        go_ret2
        rw [HSTEP.out]
        exact ⟨_, rfl, OwnF.nil _ _, HU11.out.mod⟩
       ·rw [if_neg (by simp)] at HSTEP
        have h32 := (fds_good hB).1
        have HBB := Lib.hid hB
        clear hB
        go_wp2
        go_roundw
        case rel => exact ⟨k + 1, ap2, cp2, rfl, by have := HLK.out; omega, L, s5, HLK, HBB, HU11, HLEN.out.1, by show _ = _; rw [show 34 - (k + 1) = 33 - k by omega]; exact HSTEP.out.symm⟩
        case measure => simp [lenOfV]; omega
      ·rw [if_pos he] at HSTEP
       have he1 : (s5.e == 0) = false := by simpa using he
       clear he
       generalize s5.e = e5 at *
       go_wp2_with (first
        | (go_at_call 122; refine hb.mono ?_; rintro e w' ⟨rfl, rfl⟩)
        | fail)
       go_ret2
       rw [HSTEP.out]
       exact ⟨_, rfl, OwnF.nil _ _, HU9.out.mod⟩
    ·go_simp
     have k1 : Mod (fun _ => False) wx.drew (wx.drew.alloc (.cells #[.string ⟨#[]⟩, .string ⟨#[]⟩] 39)) := (Mod.refl _ _).alloc _
     have b1 : Blk (wx.drew.alloc (.cells #[.string ⟨#[]⟩, .string ⟨#[]⟩] 39)) wx.heap.size #[.string ⟨#[]⟩, .string ⟨#[]⟩] 39 := Blk.new wx.drew _ _
     have lt1 := u0.lt
     have z1 := u0.mod.size
     have u1 := u0.still k1
     have n1 := n0.keptF k1
     refine hK.out _ _ n1.byts (fun hS => ?_)
     clear hK K
     refine wpAnyH_ready (rs := [4]) (by kernel_rfl) (by simp) ?_
     refine (AllReadyH.cons rfl (fun K hK => ?_) AllReadyH.nil)
     go_simp
     refine (HI2.out _ u1.rd).mono ?_
     rintro e Y2 ⟨rfl, hr2, hk2⟩
     have u2 := u1.step hr2 hk2
     have n2 := n1.rdr u1.rd hk2
     have b2 := hk2.blk b1 (rdr_ne u1.rd b1 (by decide))
     refine hK.out _ _ n2.byts (fun hS => ?_)
     clear hK K
     refine wpAnyH_ready (rs := [5]) (by kernel_rfl) (by simp) ?_
     refine (AllReadyH.cons rfl (fun K hK => ?_) AllReadyH.nil)
     go_simp
     refine (HY2.out _ u2.rd).mono ?_
     rintro e Y3 ⟨v3, rfl, ho3, hr3, hk3⟩
     have u3 := u2.step hr3 hk3
     have n3 := n2.rdr u2.rd hk3
     have b3 := hk3.blk b2 (rdr_ne u2.rd b2 (by decide))
     obtain ⟨av, cv, rfl, _⟩ := byts_val ho3.byts
     have o3 := OwnB.mono ho3 (Nat.zero_le _)
     refine hK.out _ _ n3.byts (fun hS => ?_)
     clear hK K
     refine wpAnyH_ready (rs := [6]) (by kernel_rfl) (by simp) ?_
     refine (AllReadyH.cons rfl (fun K hK => ?_) AllReadyH.nil)
     have hc6 := hcv2 _ _ o3.byts
     go_simp
     clear hc6
     refine hK.out _ _ n3.byts (fun hS => ?_)
     clear hK K
     refine wpAnyH_take (i := 7) (v := .agg #[.string st1, .string st2]) rfl (by kernel_rfl) (by kernel_rfl) (by kernel_rfl) (fun _ _ _ h => h) (Or.inl ⟨by rfl, fun X hX => ?_⟩) hS ?_
     ·go_simp
     refine wpAnyH_ready (rs := [9]) (by kernel_rfl) (by simp) ?_
     refine (AllReadyH.cons rfl (fun K hK => ?_) AllReadyH.nil)
     have c0 := b3.cellAt 0 rfl
     have c1 := b3.cellAt 1 rfl
     have f0 := b3.free 0
     have f1 := b3.free 1
     go_simp
     clear c0 c1 f0 f1
     have kZ : Mod (fun j => j = wx.heap.size) Y3 ((Y3.setCell ⟨wx.heap.size, 0, none⟩ (.string st1)).setCell ⟨wx.heap.size, 1, none⟩ (.string st2)) := mod_put2 _ _ _ _
     have bZ : Blk ((Y3.setCell ⟨wx.heap.size, 0, none⟩ (.string st1)).setCell ⟨wx.heap.size, 1, none⟩ (.string st2)) wx.heap.size #[.string st1, .string st2] 39 := (b3.set 0 (.string st1)).set 1 (.string st2)
     have HU9 := Lib.hid (u3.put b3 lt1 kZ z1)
     have HB9 := Lib.hid bZ
     refine hK.out _ _ (n3.fput b3 kZ).byts (fun hS => ?_)
     clear hK K
     refine wpAnyH_done (by kernel_rfl) ?_ _
     clear hS kZ bZ hd
     generalize ((Y3.setCell ⟨wx.heap.size, 0, none⟩ (.string st1)).setCell ⟨wx.heap.size, 1, none⟩ (.string st2)) = Z at *
     generalize wx.heap.size = fb at *
     have hb := bad_any HU9.out.rd
     by_cases he : s5.e = 0
     ·rw [he] at hb
      rw [if_neg (by simp [he])] at HSTEP
      clear he
      obtain ⟨L, hL⟩ : ∃ x, x = acc ++ [(⟨nm, vl⟩ : Fd)] := ⟨_, rfl⟩
      rw [← hL] at HSTEP
      have HLL := Lib.hid hL
      have HFL : Hid (FldV (Z.alloc (.cells #[.string st1, .string st2] 39)) (.slice (some ⟨Z.heap.size, 0, none⟩) 1 1) [⟨nm, vl⟩]) := by
       show FldV _ _ _
       rw [HST1.out, HST2.out]
       exact fld_one Z ⟨nm, vl⟩
      have HZ : Hid (w.heap.size ≤ (Z.alloc (.cells #[.string st1, .string st2] 39)).heap.size) := (HU9.out.mod.alloc _).size
      have HOK : Hid (FdsOk L) := by
       show FdsOk L
       rw [hL]
       intro f hf
       rcases List.mem_append.1 hf with h | h
       ·have := (fds_good HG.out).2 f h
        omega
       ·have := List.mem_singleton.1 h
        subst this
        exact ⟨by have := HLEN.out.2.1; rw [← HNN.out] at this; exact this, HLEN.out.2.2⟩
      have HLK : Hid (L.length = k + 1) := by show _ = _; rw [hL]; simp [HA.out]
      clear hL
      go_wp2_with (first
       | (go_at_call 122; refine hb.mono ?_; rintro e w' ⟨rfl, rfl⟩)
       | ((with_reducible refine wpList_load_blk ?_ 39 (.tmp 7) ?_ fb ?_ #[.string st1, .string st2] 39 _ HB9.out Tryz.underlying39 rfl (size52 _ _) ?_); (iterate 3 exact rfl))
       | ((with_reducible refine wpList_append_f ?_ (.tmp 33) (.tmp 35) ?_ (.slice ap k cp) acc w.heap.size ?_ (HU9.out.own.alloc _) (.slice (some ⟨Z.heap.size, 0, none⟩) 1 1) [⟨nm, vl⟩] ?_ HFL.out (k + 1) ?_ ?_ HZ.out L HLL.out ?_); (iterate 4 exact rfl); (· have := HA.out; simp only [List.length_cons, List.length_nil]; omega); (· omega); intro ap2 cp2 Y ho hg; have HU10 := Lib.hid ((HU9.out.still ((Mod.refl (fun _ => False) Z).alloc _)).app hg ho); clear ho hg)
       | fail)
      have HX := Lib.hid (flds_any (l := L) (HUT.out.kept HU10.out.mod) (by have := HU10.out.own.fldv; exact this) (by have := HLK.out; omega) HOK.out)
      generalize hB : fieldsB L = B at *
      refine (HX.out).mono ?_
      rintro e w5 ⟨rfl, hM5⟩
      have HU11 := Lib.hid (HU10.out.still hM5)
      clear hM5 HX
      cases B
      ·rw [if_pos rfl] at HSTEP
       go_wp2
       go_ret2
       rw [HSTEP.out]
       exact ⟨_, rfl, OwnF.nil _ _, HU11.out.mod⟩
      ·rw [if_neg (by simp)] at HSTEP
       have h32 := (fds_good hB).1
       have HBB := Lib.hid hB
       clear hB
       go_wp2
       go_roundw
       case rel => exact ⟨k + 1, ap2, cp2, rfl, by have := HLK.out; omega, L, s5, HLK, HBB, HU11, HLEN.out.1, by show _ = _; rw [show 34 - (k + 1) = 33 - k by omega]; exact HSTEP.out.symm⟩
       case measure => simp [lenOfV]; omega
     ·rw [if_pos he] at HSTEP
      have he1 : (s5.e == 0) = false := by simpa using he
      clear he
      generalize s5.e = e5 at *
      go_wp2_with (first
       | (go_at_call 122; refine hb.mono ?_; rintro e w' ⟨rfl, rfl⟩)
       | fail)
      go_ret2
      rw [HSTEP.out]
      exact ⟨_, rfl, OwnF.nil _ _, HU9.out.mod⟩
   ·have HC1 : Hid (c ≠ 32) := by show ¬ _; rw [HC.out]; exact hz
    rw [if_pos HC1.out] at HSTEP
    clear HC HC1
    have hz1 : (z == 32) = false := by simpa using hz
    go_wp2_with fail
    go_ret2
    rw [HSTEP.out]
    exact ⟨_, rfl, OwnF.nil _ _, HS2.out.mod⟩
end Go.Proofs.YtahgidkpjmecdaaGreatDoor
set_option maxRecDepth 100000
namespace Go.Proofs.YtahgidkpjmecdaaGreatDoor
open Go.RowKit Go.Maps
def restO (data : List UInt8) : List UInt8 := if data = [] then [] else hfputL ⟨0, 0, [], data⟩
theorem packE_zero {l : List Fd} {data : List UInt8} (h : packE l data = 0) : fieldsB l = true ∧ (packL l).length ≤ 1000 ∧ data.length ≤ 1000 ∧ (secO l data).length ≤ 1500 := by
 unfold packE at h
 split at h
 ·cases h
 ·rename_i h1
  split at h
  ·cases h
  ·rename_i h2
   exact ⟨by simpa using h1, by omega, by omega, by omega⟩
theorem right_hd {k : Int} (hk : k = 0 ∨ k = 1) {d : List UInt8} (h : d.length ≤ 1000) : rightH ⟨k, 0, [], d⟩ = true := by
 unfold rightH
 rw [if_pos (by unfold isData; rcases hk with rfl | rfl <;> rfl)]
 simp [h]
theorem next_sec {l : List Fd} {data : List UInt8} (h : packE l data = 0) : nextL (secO l data) = (⟨1, 0, [], packL l⟩, (hfputL ⟨1, 0, [], packL l⟩).length, 0) ∧ (secO l data).drop (hfputL ⟨1, 0, [], packL l⟩).length = restO data ∧ 0 < (hfputL ⟨1, 0, [], packL l⟩).length ∧ (hfputL ⟨1, 0, [], packL l⟩).length ≤ (secO l data).length := by
 have h1 := packE_zero h
 have hr := right_hd (.inr rfl) h1.2.1
 have e : secO l data = hfputL ⟨1, 0, [], packL l⟩ ++ restO data := rfl
 rw [e]
 refine ⟨hput_next hr _, by simp, ?_, by simp⟩
 unfold hfputL
 rw [if_pos hr]
 have := hputL_pos (bodyL ⟨1, 0, [], packL l⟩).length
 simp only [List.length_append]
 omega
theorem next_rest {l : List Fd} {data : List UInt8} (h : packE l data = 0) (h0 : data ≠ []) : nextL (restO data) = (⟨0, 0, [], data⟩, (restO data).length, 0) ∧ 0 < (restO data).length := by
 have h1 := packE_zero h
 have hr := right_hd (.inl rfl) h1.2.2.1
 unfold restO
 rw [if_neg h0]
 have := hput_next hr []
 rw [List.append_nil] at this
 refine ⟨this, ?_⟩
 unfold hfputL
 rw [if_pos hr]
 have := hputL_pos (bodyL ⟨0, 0, [], data⟩).length
 simp only [List.length_append]
 omega
theorem byts_cut {w : World} {a : Option Addr} {n c k : Nat} {b : List UInt8} (h : Byts w (.slice a n c) b) (hk : k ≤ b.length) : Byts w (sliced a k n c 1) (b.drop k) := by
 have h1 := piece_byts h hk (Nat.le_refl _)
 obtain ⟨_, _, he, _⟩ := h.val
 simp only [Value.slice.injEq] at he
 rw [he.2.1]
 rw [List.take_length] at h1
 exact h1
def MsgR (w w' : World) (l : List Fd) (data : List UInt8) (e : Ending) : Prop := ∃ fa fc da dc, e = .returned (.tuple #[.slice fa l.length fc, .slice da data.length dc, .bool true]) ∧ OwnF w' w.heap.size (.slice fa l.length fc) l ∧ OwnB w' w.heap.size (.slice da data.length dc) data ∧ Mod (fun _ => False) w w'
theorem hnext_b {w : World} {v : Value} {b : List UInt8} (h : Byts w v b) (hl : (b.length : Int) ≤ 100000) :
  Calls Tryz.prog 117 #[v] w fun e w' => ∃ sa sn sc da dc, e = .returned (.tuple #[.agg #[.int .i64 (nextL b).1.k, .int .u64 ((nextL b).1.id : Int), .slice sa sn sc, .slice da (nextL b).1.d.length dc], .int .i64 ((nextL b).2.1 : Int), .int .i64 (nextL b).2.2]) ∧ Byts w' (.slice da (nextL b).1.d.length dc) (nextL b).1.d ∧ Mod (fun _ => False) w w' := by
 refine (hnext_any h hl).mono ?_
 rintro e w' ⟨vs, vd, rfl, hf, hM⟩
 obtain ⟨sa, sc, rfl, -⟩ := set_val hf.st
 have hd := hf.d
 obtain ⟨da, dc, rfl, -⟩ := Sl.val hd
 exact ⟨_, _, _, _, _, rfl, hd, hM⟩
def ReadSt (w wr : World) (k : Nat) (v0 v5 v6 : Value) (l : List Fd) (data : List UInt8) : Prop :=
 Mod (fun _ => False) w wr ∧ ((k = 0 ∧ Byts wr v0 (secO l data) ∧ v5 = .slice none 0 0 ∧ v6 = .slice none 0 0) ∨ (k = 1 ∧ Byts wr v0 (restO data) ∧ OwnF wr w.heap.size v5 l ∧ v6 = .slice none 0 0) ∨ (k = 2 ∧ data ≠ [] ∧ Byts wr v0 [] ∧ OwnF wr w.heap.size v5 l ∧ OwnB wr w.heap.size v6 data))
set_option maxHeartbeats 8000000 in
set_option maxRecDepth 10000 in
theorem read_msg {w : World} {v : Value} {l : List Fd} {data : List UInt8} (hU : UTabs w) (hv : Byts w v (secO l data)) (hp : packE l data = 0) :
  Calls Tryz.prog 119 #[v] w fun e w' => MsgR w w' l data e := by
 obtain ⟨a, c, rfl, -⟩ := Sl.val hv
 have HV := Lib.hid hv
 have HU := Lib.hid hU
 have HP := Lib.hid hp
 obtain ⟨sl, hsl⟩ : ∃ n : Nat, (secO l data).length = n := ⟨_, rfl⟩
 rw [hsl] at HV ⊢
 have HSL := Lib.hid hsl
 clear hU hv hp hsl
 go_enter Tryz.func119, Tryz.ntmps119
 go_wp2_with fail
 go_loopw [0, 5, 6, 7] (fun s0 s5 s6 s7 wr => ∃ (a0 : Option Addr) (n0 c0 : Nat) (a5 : Option Addr) (n5 c5 : Nat) (a6 : Option Addr) (n6 c6 k : Nat), s0 = .slice a0 n0 c0 ∧ s5 = .slice a5 n5 c5 ∧ s6 = .slice a6 n6 c6 ∧ s7 = .int .i64 (k : Int) ∧ Hid (ReadSt w wr k (.slice a0 n0 c0) (.slice a5 n5 c5) (.slice a6 n6 c6) l data)) (fun _ _ _ s7 _ => 3 - (intOf s7).toNat)
 case atStart => exact ⟨a, sl, c, none, 0, 0, none, 0, 0, 0, rfl, rfl, rfl, rfl, Lib.hid ⟨Mod.refl _ _, .inl ⟨rfl, HV.out, rfl, rfl⟩⟩⟩
 case round =>
  obtain ⟨a0, n0, c0, a5, n5, c5, a6, n6, c6, k, rfl, rfl, rfl, rfl, HR⟩ := hrel
  have HM := Lib.hid HR.out.1
  rcases HR.out.2 with ⟨hk, hb, h5, h6⟩ | ⟨hk, hb, h5, h6⟩ | ⟨hk, hd, hb, h5, h6⟩
  ·subst hk
   obtain ⟨_, _, hv0, _⟩ := hb.val
   simp only [Value.slice.injEq] at hv0
   obtain ⟨rfl, rfl, rfl⟩ := hv0
   simp only [Value.slice.injEq] at h5 h6
   obtain ⟨rfl, rfl, rfl⟩ := h5
   obtain ⟨rfl, rfl, rfl⟩ := h6
   have hz := packE_zero HP.out
   obtain ⟨hn1, hn2, hn3, hn4⟩ := next_sec HP.out
   have HN := Lib.hid (hnext_b hb (by omega))
   rw [hn1] at HN
   dsimp only at HN
   obtain ⟨nn, hnn⟩ : ∃ nn, (hfputL ⟨1, 0, [], packL l⟩).length = nn := ⟨_, rfl⟩
   rw [hnn] at HN hn2 hn3 hn4
   obtain ⟨a1, c1, he1⟩ : ∃ a1 c1, sliced a0 nn (secO l data).length c0 1 = .slice a1 ((secO l data).length - nn) c1 := ⟨_, _, rfl⟩
   have HCUT := Lib.hid (fun w2 (hm : Mod (fun _ => False) wr w2) => byts_cut (byts_kept hb hm) (k := nn) (by omega))
   rw [he1, hn2] at HCUT
   have HSE := Lib.hid he1
   have HN4 := Lib.hid hn4
   have HUP := Lib.hid (fun w2 (hm : Mod (fun _ => False) wr w2) d (hd : Byts w2 d (packL l)) => unpack_any (HU.out.kept (HM.out.trans hm)) hd (by have := hz.2.1; omega))
   rw [unpack_pack hz.1] at HUP
   dsimp only at HUP
   generalize hbl : (secO l data).length = bl at *
   have t0 : (0 : Int) < (bl : Int) := by omega
   have t0' : 0 < bl := by omega
   have HSZ := Lib.hid HM.out.size
   obtain ⟨pl, hpl⟩ : ∃ pl, (packL l).length = pl := ⟨_, rfl⟩
   rw [hpl] at HN
   have nn0 : (0 : Int) ≤ (nn : Int) := by omega
   clear hz hn1 hn2 hn3 hn4 hnn he1 hb hbl HR
   go_wp2_with (first
    | (go_at_call 117; (with_reducible refine HN.out.mono ?_); rintro e w1 ⟨sa, sn, sc, da, dc, rfl, hd, hm⟩; have HM1 := Lib.hid hm; have HD1 := Lib.hid hd; clear hm hd)
    | ((with_reducible refine wpList_store_blk ?_ 77 (.tmp 8) (.tmp 23) ?_ w1.heap.size ?_ #[.int .i64 0, .int .u64 0, .slice none 0 0, .slice none 0 0] #[.int .i64 1, .int .u64 0, .slice sa sn sc, .slice da pl dc] ?_ 77 (Blk.new _ _ _) (size26 _ _ _ _) rfl (hfr_one _ _ _ _ _ _ _ _) ?_); (iterate 4 exact rfl); intro w2 hB2 hM2; have HM2 := Lib.hid ((HM1.out.trans ((Mod.refl (fun _ => False) _).alloc (.cells #[.int .i64 0, .int .u64 0, .slice none 0 0, .slice none 0 0] 77))).trans' hM2 (fun i hi e => by have := HM1.out.size; omega)); have HM12 : Hid (Mod (fun _ => False) w1 w2) := Lib.hid (((Mod.refl (fun _ => False) w1).alloc _).trans' hM2 (fun i hi e => by omega)); have k8 : w2.cell? ⟨w1.heap.size, 0, none⟩ = some (.int .i64 1) := hB2.cellAt 0 rfl; have k3 : w2.cell? ⟨w1.heap.size, 3, none⟩ = some (.slice da pl dc) := hB2.cellAt 3 rfl; have HD2 := Lib.hid (byts_kept HD1.out HM12.out); clear hB2 hM2)
    | (go_at_call 200; go_loud ((with_reducible refine (HUP.out w2 HM2.out _ HD2.out).mono ?_); rintro e w3 ⟨vf, rfl, hf, hm⟩; obtain ⟨fa, fc, rfl, -⟩ := fld_val hf.fldv; have HF : Hid (OwnF w3 w.heap.size (.slice fa l.length fc) l) := Lib.hid (own_mono hf (Nat.le_trans HSZ.out HM2.out.size)); have HM3 := Lib.hid (HM2.out.trans hm); clear hf hm))
    | ((with_reducible refine wpList_slice_o ?_ (.tmp 63) (.tmp 64) ?_ a0 bl c0 nn ?_ ?_ HN4.out _ HSE.out ?_); (iterate 4 exact rfl))
    | fail)
   go_roundw
   case rel => exact ⟨a1, bl - nn, c1, fa, l.length, fc, none, 0, 0, 1, rfl, rfl, rfl, rfl, Lib.hid ⟨HM.out.trans HM3.out, .inr (.inl ⟨rfl, HCUT.out w3 HM3.out, HF.out, rfl⟩)⟩⟩
   case measure => simp [intOf]
  ·subst hk
   obtain ⟨_, _, hv0, _⟩ := hb.val
   simp only [Value.slice.injEq] at hv0
   obtain ⟨rfl, rfl, rfl⟩ := hv0
   simp only [Value.slice.injEq] at h6
   obtain ⟨rfl, rfl, rfl⟩ := h6
   obtain ⟨fa, fc, hf5, -⟩ := fld_val h5.fldv
   simp only [Value.slice.injEq] at hf5
   obtain ⟨rfl, rfl, rfl⟩ := hf5
   by_cases h0 : data = []
   ·subst h0
    have e0 : (restO []).length = 0 := rfl
    rw [e0]
    have H5 := Lib.hid h5
    clear hb h5 HR
    go_wp2_with fail
    go_ret3
    exact ⟨a5, c5, none, 0, rfl, H5.out, OwnB.nilI _ _, HM.out⟩
   ·obtain ⟨hn1, hn3⟩ := next_rest HP.out h0
    have hz := packE_zero HP.out
    have hlr : (restO data).length ≤ 1016 := by unfold restO; rw [if_neg h0]; exact hput_lens
    have HN := Lib.hid (hnext_b hb (by omega))
    rw [hn1] at HN
    dsimp only at HN
    obtain ⟨a1, c1, he1⟩ : ∃ a1 c1, sliced a0 (restO data).length (restO data).length c0 1 = .slice a1 0 c1 := ⟨_, _, by unfold sliced; rw [Nat.sub_self]⟩
    have HCUT := Lib.hid (fun w2 (hm : Mod (fun _ => False) wr w2) => byts_cut (byts_kept hb hm) (k := (restO data).length) (Nat.le_refl _))
    rw [he1, List.drop_length] at HCUT
    have HSE := Lib.hid he1
    have H5 := Lib.hid h5
    have H0 := Lib.hid h0
    generalize hbl : (restO data).length = bl at *
    have t0 : (0 : Int) < (bl : Int) := by omega
    have t0' : 0 < bl := by omega
    have HSZ := Lib.hid HM.out.size
    obtain ⟨dl, hdl⟩ : ∃ dl, data.length = dl := ⟨_, rfl⟩
    rw [hdl] at HN
    have HDL := Lib.hid hdl
    have HD0 := Lib.hid (show dl ≤ 1000 by omega)
    clear hz hn1 hn3 he1 hb hbl h5 h0 hlr hdl HR
    go_wp2_with (first
     | (go_at_call 117; (with_reducible refine HN.out.mono ?_); rintro e w1 ⟨sa, sn, sc, da, dc, rfl, hd, hm⟩; have HM1 := Lib.hid hm; have HD1 := Lib.hid hd; clear hm hd)
     | ((with_reducible refine wpList_store_blk ?_ 77 (.tmp 8) (.tmp 23) ?_ w1.heap.size ?_ #[.int .i64 0, .int .u64 0, .slice none 0 0, .slice none 0 0] #[.int .i64 0, .int .u64 0, .slice sa sn sc, .slice da dl dc] ?_ 77 (Blk.new _ _ _) (size26 _ _ _ _) rfl (hfr_one _ _ _ _ _ _ _ _) ?_); (iterate 4 exact rfl); intro w2 hB2 hM2; have HM2 := Lib.hid ((HM1.out.trans ((Mod.refl (fun _ => False) _).alloc (.cells #[.int .i64 0, .int .u64 0, .slice none 0 0, .slice none 0 0] 77))).trans' hM2 (fun i hi e => by have := HM1.out.size; omega)); have HM12 : Hid (Mod (fun _ => False) w1 w2) := Lib.hid (((Mod.refl (fun _ => False) w1).alloc _).trans' hM2 (fun i hi e => by omega)); have k8 : w2.cell? ⟨w1.heap.size, 0, none⟩ = some (.int .i64 0) := hB2.cellAt 0 rfl; have k3 : w2.cell? ⟨w1.heap.size, 3, none⟩ = some (.slice da dl dc) := hB2.cellAt 3 rfl; have HD2 := Lib.hid (byts_kept HD1.out HM12.out); clear hB2 hM2)
     | ((with_reducible refine wpList_append_b ?_ (.tmp 59) (.tmp 61) ?_ (.slice none 0 0) [] w.heap.size dl ?_ (OwnB.nilI _ _) (.slice da dl dc) data ?_ HD2.out data ?_ ?_ ?_ ?_ ?_); (iterate 5 exact rfl); (· rw [HDL.out]; exact Nat.zero_add _); (· have := HD0.out; omega); (· exact (HM.out.trans HM2.out).size); intro ap cp w3 hA; have HA := Lib.hid hA; have HM3 := Lib.hid (hA.mod (S := fun _ => False) HM2.out (fun g hg => by cases hg)); clear hA)
     | ((with_reducible refine wpList_slice_o ?_ (.tmp 63) (.tmp 64) ?_ a0 bl c0 bl ?_ ?_ (Nat.le_refl _) _ HSE.out ?_); (iterate 4 exact rfl))
     | fail)
    go_roundw
    case rel => exact ⟨a1, 0, c1, a5, l.length, c5, ap, dl, cp, 2, rfl, rfl, rfl, rfl, Lib.hid ⟨HM.out.trans HM3.out, .inr (.inr ⟨rfl, H0.out, HCUT.out w3 HM3.out, H5.out.kept HM3.out (fun _ _ h => h), HA.out.own⟩)⟩⟩
    case measure => simp [intOf]
  ·subst hk
   obtain ⟨_, _, hv0, _⟩ := hb.val
   simp only [Value.slice.injEq] at hv0
   obtain ⟨rfl, rfl, rfl⟩ := hv0
   obtain ⟨fa, fc, hf5, -⟩ := fld_val h5.fldv
   simp only [Value.slice.injEq] at hf5
   obtain ⟨rfl, rfl, rfl⟩ := hf5
   obtain ⟨_, _, hv6, _⟩ := Sl.val h6.byts
   simp only [Value.slice.injEq] at hv6
   obtain ⟨rfl, rfl, rfl⟩ := hv6
   have H5 := Lib.hid h5
   have H6 := Lib.hid h6
   clear hb h5 h6 hd HR
   go_wp2_with fail
   go_ret3
   exact ⟨a5, c5, a6, c6, rfl, H5.out, H6.out, HM.out⟩
theorem ses_nil {W w : World} (l : List Th) {sb mb : Nat} {G : Int → PM} {S : Ses} {ov : Value} {m : List Th} (h : At W w (l ++ sesTh W.heap.size sb mb G S ov :: m)) {z : Int} (hz : z ∈ S.dom) :
  At W (w.setCell ⟨(G z).pb, 0, none⟩ (.slice none 0 0)) (l ++ sesTh W.heap.size sb mb (updQ G z ⟨(G z).pb, .slice none 0 0⟩) (withB S z []) ov :: m) := by
 have hp := (show SBf W.heap.size w sb mb G S ov from h.get l).parts z hz
 have hM : Mod (fun k => k = (G z).pb) w (w.setCell ⟨(G z).pb, 0, none⟩ (.slice none 0 0)) := (Mod.refl (fun k => k = (G z).pb) _).setCell (p := ⟨(G z).pb, 0, none⟩) (fun _ => rfl) _
 refine ses_part l h hz ⟨hp.at0, hp.blk.set 0 _, OwnO.nil _ _, fun e => by cases e⟩ rfl (fun j hj => .inl ?_) (hM.mono (fun k _ e => .inl e))
 rcases hj with e | e
 ·exact .inl e
 ·cases e
def evO (c : Bool) (id : Nat) (l : List Fd) (data : List UInt8) : Ev := ⟨if c then 2 else 1, id, l, data, 0⟩
def toldS (S : Ses) (z : Int) : Ses := { S with m := updP S.m z { S.m z with told := true, asked := true, b := [] } }
theorem built_msg (k : Int) (id : Nat) (fa : Option Addr) (fn fc : Nat) (da : Option Addr) (dn dc : Nat) : Tryz.prog.built 51 [(0, .int .i64 k), (1, .int .u64 (id : Int)), (2, .slice fa fn fc), (3, .slice da dn dc)] = some #[.int .i64 k, .int .u64 (id : Int), .slice fa fn fc, .slice da dn dc, .int .u64 0] := by kernel_rfl
theorem At.new2 {W w w' : World} {m : List Th} (h : At W w m) {a b : Th} (hM : Mod (fun _ => False) w w') (ha : a.P w') (hb : b.P w') (hA : ∀ k, a.R k → w.heap.size ≤ k ∧ k < w'.heap.size) (hB : ∀ k, b.R k → w.heap.size ≤ k ∧ k < w'.heap.size) (hab : Apart a b) : At W w' (a :: b :: m) := by
 refine At.change (l1 := []) [a, b] h (hM.mono (fun _ _ e => e.elim)) (fun o ho => ?_) (pair2 hab)
 rcases List.mem_cons.1 ho with rfl | ho
 ·exact ⟨ha, fun k hk => .inr (hA k hk)⟩
 ·have := List.mem_singleton.1 ho
  subst this
  exact ⟨hb, fun k hk => .inr (hB k hk)⟩
theorem tell_o {W w : World} {sb mb : Nat} {G : Int → PM} {S : Ses} {ov : Value} {X : Nat → Prop} {L : List Ev} {m : List Th} {c : Bool} {k : Int} {id : Nat} {l : List Fd} {data : List UInt8} {fa : Option Addr} {fc : Nat} {da : Option Addr} {dc : Nat} (h : At W w (sesTh W.heap.size sb mb G S ov :: evsTh W.heap.size X ov L :: fldTh W.heap.size (.slice fa l.length fc) l :: rowTh W.heap.size (.slice da data.length dc) data :: m)) (hL : L.length ≤ 1000) (hk : k = (evO c id l data).k) :
  Calls Tryz.prog 36 #[.pointer (some ⟨sb, 0, none⟩), .agg #[.int .i64 k, .int .u64 (id : Int), .slice fa l.length fc, .slice da data.length dc, .int .u64 0]] w fun e w' => TellS W w' sb mb G S (L ++ [evO c id l data]) m e := by
 subst hk
 exact tell_s (f := evO c id l data) h hL
theorem told_all {W w : World} {sb mb pb : Nat} {G : Int → PM} {S : Ses} {ov : Value} {m : List Th} {z : Int} (hz : z ∈ S.dom) (hpb : (G z).pb = pb) (h : At W w (sesTh W.heap.size sb mb G { S with m := updP S.m z { S.m z with told := true } } ov :: m)) :
  At W ((w.setCell ⟨pb, 0, none⟩ (.slice none 0 0)).setCell ⟨pb, 5, none⟩ (.bool true)) (sesTh W.heap.size sb mb (updQ G z ⟨pb, .slice none 0 0⟩) (toldS S z) ov :: m) := by
 have h3 := ses_nil [] h hz
 rw [hpb] at h3
 have h4 := At.pset [] h3 hz (i := 5) (v := .bool true) (p' := { S.m z with told := true, asked := true, b := [] }) (by unfold withB; dsimp only; rw [updP_same, updP_same]; rfl) (by unfold withB; dsimp only; rw [updP_same])
 unfold withB at h4
 dsimp only at h4
 rw [updQ_same, updP_twice, updP_twice] at h4
 exact h4
set_option maxHeartbeats 4000000 in
set_option maxRecDepth 10000 in
theorem bothWays_s {W w : World} {sb mb : Nat} {G : Int → PM} {S : Ses} {ov : Value} {X : Nat → Prop} {L : List Ev} {m : List Th} (h : At W w (sesTh W.heap.size sb mb G S ov :: evsTh W.heap.size X ov L :: m)) (hL : L.length ≤ 1000) (hU : UTabs W) {id : Nat} (hz : (id : Int) ∈ S.dom) {l : List Fd} {data : List UInt8} (hb : (S.m id).b = secO l data) (hp : packE l data = 0) :
  Calls Tryz.prog 71 #[.pointer (some ⟨sb, 0, none⟩), .int .u64 (id : Int), .pointer (some ⟨(G id).pb, 0, none⟩)] w fun e w' => CtlR W w' sb mb id (G id).pb (toldS S id) (L ++ [evO S.client id l data]) m e := by
 have q : SBf W.heap.size w sb mb G S ov := h.get []
 have hq := q.parts _ hz
 obtain ⟨a, c, hv, -⟩ := hq.own.val
 have p6 : w.cell? ⟨(G id).pb, 6, none⟩ = some (.bool (S.m id).told) := hq.blk.cellAt 6 rfl
 have f6 := hq.blk.free 6
 have h1 := At.pset [] h hz (i := 6) (v := .bool true) (p' := { S.m id with told := true }) rfl rfl
 have q1 : SBf W.heap.size _ sb mb G _ ov := h1.get []
 have hq1 := q1.parts _ hz
 rw [hb] at hv
 have hby : Byts (w.setCell ⟨(G id).pb, 6, none⟩ (.bool true)) (.slice a (secO l data).length c) (secO l data) := by
  have := hq1.own.byts
  dsimp only at this
  rw [updP_same, hv] at this
  dsimp only at this
  rw [hb] at this
  exact this
 have m0 : (w.setCell ⟨(G id).pb, 6, none⟩ (.bool true)).cell? ⟨(G id).pb, 0, none⟩ = some (.slice a (secO l data).length c) := hv ▸ hq1.blk.cellAt 0 rfl
 have HRD := Lib.hid (read_msg (h1.utabs hU) hby hp)
 have HS1 := Lib.hid h1
 have HZ := Lib.hid hz
 obtain ⟨pb, hpb⟩ : ∃ pb, (G id).pb = pb := ⟨_, rfl⟩
 rw [hpb] at p6 f6 m0 HRD HS1 ⊢
 have HPB := Lib.hid hpb
 have HL := Lib.hid hL
 have hne : ¬ pb = sb := fun e => (q.tops _ hz sb (.inl (by rw [hpb, e]))).1 rfl
 have hne' : ¬ sb = pb := fun e => hne e.symm
 have hcl : ∃ b, S.client = b := ⟨_, rfl⟩
 clear q hq q1 hq1 hv hby h1 h hb hp hz hU hpb hL
 generalize (secO l data).length = sl at *
 obtain ⟨b, hbc⟩ := hcl
 have HBC := Lib.hid hbc
 clear hbc
 cases b <;> (
  go_enter Tryz.func71, Tryz.ntmps71
  go_wp2_with (first
   | (go_at_call 119; go_loud ((with_reducible refine HRD.out.mono ?_); rintro e w2 ⟨fa, fc, da, dc, rfl, hf, hd, hm⟩; have h2 := HS1.out.new2 (a := fldTh W.heap.size (.slice fa l.length fc) l) (b := rowTh W.heap.size (.slice da data.length dc) data) hm (own_mono hf HS1.out.le) (hd.base HS1.out.le) (fun k hk => World.ownsRow.lt hf k hk) (fun k hk => World.ownsRow.lt hd k hk) (fun k hk hk2 => by obtain ⟨_, C1, hC1⟩ := row_lies hf hk; obtain ⟨_, C2, hC2⟩ := row_lies hd hk2; exact Blk.ne hC1 hC2 (by decide) rfl); have HS2 : Hid (At W w2 (sesTh W.heap.size sb mb G { S with m := updP S.m id { S.m id with told := true } } ov :: evsTh W.heap.size X ov L :: fldTh W.heap.size (.slice fa l.length fc) l :: rowTh W.heap.size (.slice da data.length dc) data :: m)) := Lib.hid (h2.perm ((List.perm_append_comm (l₁ := [fldTh W.heap.size (.slice fa l.length fc) l, rowTh W.heap.size (.slice da data.length dc) data]) (l₂ := [sesTh W.heap.size sb mb G { S with m := updP S.m id { S.m id with told := true } } ov, evsTh W.heap.size X ov L])).append_right m)); have HT := Lib.hid (told_all HZ.out HPB.out HS2.out); have q2 : SBf W.heap.size w2 sb mb G { S with m := updP S.m id { S.m id with told := true } } ov := HS2.out.get []; have hb2 := (q2.parts _ HZ.out).blk; rw [HPB.out] at hb2; have k0 : w2.cell? ⟨pb, 0, none⟩ = some (G id).bv := hb2.cellAt 0 rfl; have k5 : w2.cell? ⟨pb, 5, none⟩ = some (.bool _) := hb2.cellAt 5 rfl; have z0 := hb2.free 0; have z5 := hb2.free 5; have s0 : w2.cell? ⟨sb, 0, none⟩ = some (.bool S.client) := q2.blk.cellAt 0 rfl; rw [HBC.out] at s0; clear h2 hf hd hb2 q2))
   | ((with_reducible refine wpList_build_c ?_ 51 [(0, .const (.int .i64 2)), (1, .tmp 49), (2, .tmp 50), (3, .tmp 51)] ?_ [(0, .int .i64 2), (1, .int .u64 (id : Int)), (2, .slice fa l.length fc), (3, .slice da data.length dc)] ?_ _ (built_msg 2 id fa l.length fc da data.length dc) ?_); (iterate 3 exact rfl))
   | ((with_reducible refine wpList_build_c ?_ 51 [(0, .const (.int .i64 1)), (1, .tmp 28), (2, .tmp 29), (3, .tmp 30)] ?_ [(0, .int .i64 1), (1, .int .u64 (id : Int)), (2, .slice fa l.length fc), (3, .slice da data.length dc)] ?_ _ (built_msg 1 id fa l.length fc da data.length dc) ?_); (iterate 3 exact rfl))
   | (go_at_call 36; (first | (have e1 : (1 : Int) = (evO S.client id l data).k := (by rw [HBC.out]; rfl); have HC := Lib.hid (tell_o (c := S.client) (k := 1) HT.out HL.out e1); clear e1) | (have e1 : (2 : Int) = (evO S.client id l data).k := (by rw [HBC.out]; rfl); have HC := Lib.hid (tell_o (c := S.client) (k := 2) HT.out HL.out e1); clear e1)); (with_reducible refine HC.out.mono ?_); clear HC; rintro e w9 ⟨X9, a9, c9, rfl, h9⟩; have HS9 := Lib.hid h9; clear h9)
   | fail)
  go_end0
  exact ⟨updQ G (id : Int) ⟨pb, .slice none 0 0⟩, X9, _, rfl, by rw [updQ_same], HS9.out⟩)
end Go.Proofs.YtahgidkpjmecdaaGreatDoor
