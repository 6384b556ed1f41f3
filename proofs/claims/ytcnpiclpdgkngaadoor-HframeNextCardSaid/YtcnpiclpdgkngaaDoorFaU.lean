/- The fields of a section: the program's. (printed by genfau.py) -/
import Derived.Test.YtcnpiclpdgkngaaDoorFaT
import Derived.Test.YtcnpiclpdgkngaaDoorFaS
namespace Go.Proofs.YtcnpiclpdgkngaaDoor
open Go.RowKit

def lenOfV : Value → Nat
  | .slice _ n _ => n
  | _ => 0
theorem mod_put2 (X : World) (fb : Nat) (v1 v2 : Value) : Mod (fun j => j = fb) X ((X.setCell ⟨fb, 0, none⟩ v1).setCell ⟨fb, 1, none⟩ v2) :=
  Mod.setCell (S := fun j => j = fb) (Mod.setCell (S := fun j => j = fb) (Mod.refl _ _) (p := ⟨fb, 0, none⟩) (fun _ => rfl) _) (p := ⟨fb, 1, none⟩) (fun _ => rfl) _
set_option maxHeartbeats 8000000 in
set_option maxRecDepth 10000 in
theorem unpack_any {w : World} {v : Value} {b : List UInt8} (hU : UTabs w) (hv : Byts w v b) (hl : (b.length : Int) ≤ 100000) :
    Calls Tryd.prog 24 #[v] w fun e w' => ∃ v', e = .returned (.tuple #[v', .int .i64 (unpackL 34 [] ⟨b, 0⟩).2]) ∧ FldV w' v' (unpackL 34 [] ⟨b, 0⟩).1 ∧ Mod (fun _ => False) w w' := by
  obtain ⟨R, hR⟩ : ∃ x, x = unpackL 34 [] ⟨b, 0⟩ := ⟨_, rfl⟩
  rw [← hR]
  have HRR0 : Hid (unpackL (34 - 0) [] ⟨b, 0⟩ = R) := hR.symm
  have HV := Lib.hid (read_any hv (by omega))
  have HUT := Lib.hid hU
  have HLB := Lib.hid hl
  obtain ⟨a, cap, rfl, _⟩ := byts_val hv
  clear hR hv hU hl
  generalize hbl : b.length = bl at *
  have HBL := Lib.hid hbl
  clear hbl
  go_enter Tryd.func24, Tryd.ntmps24
  go_wp2_with fail
  refine (HV.out).mono ?_
  rintro e w1 ⟨rb, rfl, hrb, hr, hM⟩
  have HS0 : Hid (URd w w1 rb (.slice none 0 0) [] ⟨b, 0⟩) := ⟨hr, OwnF.nil _ _, hM, hrb⟩
  have HLE0 : Hid (((⟨b, 0⟩ : RS).l.length : Int) ≤ 100000) := by show _ ≤ _; have := HLB.out; have := HBL.out; simp only; omega
  generalize (⟨b, 0⟩ : RS) = s0 at *
  clear hr hM hrb HV HLB HBL
  go_wp2
  go_loopw [4] (fun s4 wr => ∃ k ap cp, s4 = .slice ap k cp ∧ k ≤ 32 ∧ ∃ acc s, Hid (acc.length = k) ∧ Hid (fieldsB acc = true) ∧ Hid (URd w wr rb (.slice ap k cp) acc s) ∧ Hid ((s.l.length : Int) ≤ 100000) ∧ Hid (unpackL (34 - k) acc s = R)) (fun s4 _ => 40 - lenOfV s4)
  case atStart => exact ⟨0, none, 0, rfl, by omega, [], s0, rfl, rfl, HS0, HLE0, HRR0⟩
  case round =>
    clear HS0 HRR0 HLE0
    obtain ⟨k, ap, cp, rfl, hk, acc, s, HA, HG, HS, HLE, HRR⟩ := hrel
    have hleft := left_any HS.out.rd
    by_cases hs : s.l = []
    · have hl0 : ((s.l.length : Nat) : Int) = 0 := by simp [hs]
      rw [hl0] at hleft
      have HFIN : Hid (R = (acc, 0)) := by
        show _ = _
        rw [← HRR.out, show 34 - k = (33 - k) + 1 by omega]
        exact unpack_nil hs
      clear hl0 hs
      go_wp2_with (first | (go_at_call 37; refine (hleft).mono ?_; rintro e w' ⟨rfl, rfl⟩) | fail)
      go_ret2
      rw [HFIN.out]
      exact ⟨_, rfl, HS.out.own.fldv, HS.out.mod⟩
    · have hl1 : (0 : Int) < ((s.l.length : Nat) : Int) := by
        have : 0 < s.l.length := by cases h : s.l with | nil => exact absurd h hs | cons => simp
        omega
      have hl0 : decide ((0 : Int) < ((s.l.length : Nat) : Int)) = true := decide_eq_true hl1
      generalize hsl : (s.l.length : Int) = sl at *
      have HSL := Lib.hid hsl
      have HNE := Lib.hid hs
      have HB := Lib.hid (byte_any HS.out.rd)
      obtain ⟨c, s1, h1⟩ : ∃ c s1, s.byte = (c, s1) := ⟨_, _, rfl⟩
      obtain ⟨ia, s2, h2⟩ : ∃ c s1', s1.int = (c, s1') := ⟨_, _, rfl⟩
      obtain ⟨nm, s3, h3⟩ : ∃ c s1', s2.bytes ia = (c, s1') := ⟨_, _, rfl⟩
      obtain ⟨ib, s4, h4⟩ : ∃ c s1', s3.int = (c, s1') := ⟨_, _, rfl⟩
      obtain ⟨vl, s5, h5⟩ : ∃ c s1', s4.bytes ib = (c, s1') := ⟨_, _, rfl⟩
      have HSTEP : Hid (R = if c ≠ 32 then ([], 3) else if s5.e ≠ 0 then ([], s5.e) else if fieldsB (acc ++ [⟨nm, vl⟩]) = false then ([], 3) else unpackL (33 - k) (acc ++ [⟨nm, vl⟩]) s5) := by
        show _ = _
        rw [← HRR.out, show 34 - k = (33 - k) + 1 by omega]
        exact unpack_step hs h1 h2 h3 h4 h5
      have HLEN : Hid ((s5.l.length : Int) ≤ 100000 ∧ (nm.length : Int) ≤ 100000 ∧ (vl.length : Int) ≤ 100000) := by
        have e1 := (bytes_len s 1).1
        have e1' : s.byte.2 = (s.bytes 1).2 := rfl
        rw [h1] at e1'
        simp only at e1'
        rw [← e1'] at e1
        have e2 := int_len s1
        have e3 := bytes_len s2 ia
        have e4 := int_len s3
        have e5 := bytes_len s4 ib
        rw [h2] at e2
        rw [h3] at e3
        rw [h4] at e4
        rw [h5] at e5
        have := HLE.out
        show _ ∧ _ ∧ _
        simp only at e2 e3 e4 e5
        omega
      rw [h1] at HB
      simp only at HB
      have HI1 := Lib.hid (fun (X : World) (h : Rdr X rb s1) => int_any h)
      rw [h2] at HI1
      have HY1 := Lib.hid (fun (X : World) (h : Rdr X rb s2) => bytes_any ia h)
      rw [h3] at HY1
      have HI2 := Lib.hid (fun (X : World) (h : Rdr X rb s3) => int_any h)
      rw [h4] at HI2
      have HY2 := Lib.hid (fun (X : World) (h : Rdr X rb s4) => bytes_any ib h)
      rw [h5] at HY2
      simp only at HI1 HY1 HI2 HY2
      have hc : (c.toNat : Int) ≤ 255 := by have := c.toNat_lt; omega
      have HC : Hid (c = 32 ↔ (c.toNat : Int) = 32) := by
        show _ ↔ _
        constructor
        · rintro rfl; rfl
        · intro h; apply UInt8.toNat_inj.1; show c.toNat = 32; omega
      clear h1 h2 h3 h4 h5 hs hsl HRR
      generalize (c.toNat : Int) = z at *
      go_wp2_with (first | (go_at_call 37; refine (hleft).mono ?_; rintro e w' ⟨rfl, rfl⟩) | fail)
      refine (HB.out).mono ?_
      rintro e w2 ⟨rfl, hr2, hM2⟩
      have HS2 := Lib.hid (HS.out.step hr2 hM2)
      clear hr2 hM2 HB hleft hl0
      by_cases hz : z = 32
      · subst hz
        have HC1 : Hid (¬ c ≠ 32) := by show ¬ _; simp [HC.out]
        rw [if_neg HC1.out] at HSTEP
        clear HC HC1
        go_wp2_with fail
        refine (HI1.out _ HS2.out.rd).mono ?_
        rintro e w3 ⟨rfl, hr3, hM3⟩
        have HS3 := Lib.hid (HS2.out.step hr3 hM3)
        clear hr3 hM3 HS2
        go_wp2_with fail
        refine (HY1.out _ HS3.out.rd).mono ?_
        rintro e wx ⟨vn, rfl, hon, hr4, hM4⟩
        have HS4 := Lib.hid (HS3.out.step hr4 hM4)
        have HN4 := Lib.hid (OwnB.mono hon (Nat.zero_le _))
        obtain ⟨an, cn, rfl, _⟩ := byts_val hon.byts
        clear hr4 hM4 hon HS3 HI1 HY1
        generalize hnn : nm.length = nn at *
        have HNN := Lib.hid hnn
        clear hnn
        go_wp2_with fail
        obtain ⟨st1, hst1⟩ : ∃ x, x = ByteArray.mk nm.toArray := ⟨_, rfl⟩
        obtain ⟨st2, hst2⟩ : ∃ x, x = ByteArray.mk vl.toArray := ⟨_, rfl⟩
        have hcv1 : ∀ X v, Byts X v nm → (convert 24 9 v).run Tryd.prog X = .ok (.string st1) X := fun X v h => by rw [hst1]; exact conv_any h
        have hcv2 : ∀ X v, Byts X v vl → (convert 24 9 v).run Tryd.prog X = .ok (.string st2) X := fun X v h => by rw [hst2]; exact conv_any h
        have HST1 := Lib.hid hst1
        have HST2 := Lib.hid hst2
        clear hst1 hst2
        have hd : Mod (fun _ => False) wx wx.drew := (Mod.refl _ _).drew
        have u0 := HS4.out.still hd
        have n0 := HN4.out.keptF hd
        refine wp_region_held_drew (S := fun X => Byts X (.slice an nn cn) nm) (by kernel_rfl) n0.byts (fun hS => ?_)
        refine wpAnyH_take (i := 0) (v := .slice an nn cn) rfl (by kernel_rfl) (by kernel_rfl) (by kernel_rfl) (fun _ _ _ h => h) (Or.inl ⟨by rfl, fun X hX => ?_⟩) hS ?_
        · go_simp
        refine wpAnyH_take (i := 1) (v := .string st1) rfl (by kernel_rfl) (by kernel_rfl) (by kernel_rfl) (fun _ _ _ h => h) (Or.inl ⟨by rfl, fun X hX => ?_⟩) hS ?_
        · have := hcv1 _ _ hX; go_simp
        refine wpAnyH_take (i := 2) (v := .pointer (some ⟨rb, 0, none⟩)) rfl (by kernel_rfl) (by kernel_rfl) (by kernel_rfl) (fun _ _ _ h => h) (Or.inl ⟨by rfl, fun X hX => ?_⟩) hS ?_
        · go_simp
        refine wpAnyH_take (i := 3) (v := .pointer (some ⟨rb, 0, none⟩)) rfl (by kernel_rfl) (by kernel_rfl) (by kernel_rfl) (fun _ _ _ h => h) (Or.inl ⟨by rfl, fun X hX => ?_⟩) hS ?_
        · go_simp
        refine wpAnyH_ready (rs := [4, 8]) (by kernel_rfl) (by simp) ?_
        refine (AllReadyH.cons rfl (fun K hK => ?_) (AllReadyH.cons rfl (fun K hK => ?_) AllReadyH.nil))
        · go_simp
          refine (HI2.out _ u0.rd).mono ?_
          rintro e Y1 ⟨rfl, hr1, hk1⟩
          have u1 := u0.step hr1 hk1
          have n1 := n0.rdr u0.rd hk1
          refine hK.out _ _ n1.byts (fun hS => ?_)
          clear hK K
          refine wpAnyH_ready (rs := [5, 8]) (by kernel_rfl) (by simp) ?_
          refine (AllReadyH.cons rfl (fun K hK => ?_) (AllReadyH.cons rfl (fun K hK => ?_) AllReadyH.nil))
          · go_simp
            refine (HY2.out _ u1.rd).mono ?_
            rintro e Y2 ⟨v2, rfl, ho2, hr2, hk2⟩
            have u2 := u1.step hr2 hk2
            have n2 := n1.rdr u1.rd hk2
            obtain ⟨av, cv, rfl, _⟩ := byts_val ho2.byts
            have o2 := OwnB.mono ho2 (Nat.zero_le _)
            refine hK.out _ _ n2.byts (fun hS => ?_)
            clear hK K
            refine wpAnyH_ready (rs := [6, 8]) (by kernel_rfl) (by simp) ?_
            refine (AllReadyH.cons rfl (fun K hK => ?_) (AllReadyH.cons rfl (fun K hK => ?_) AllReadyH.nil))
            · have hc6 := hcv2 _ _ o2.byts
              go_simp
              clear hc6
              refine hK.out _ _ n2.byts (fun hS => ?_)
              clear hK K
              refine wpAnyH_take (i := 7) (v := .agg #[.string st1, .string st2]) rfl (by kernel_rfl) (by kernel_rfl) (by kernel_rfl) (fun _ _ _ h => h) (Or.inl ⟨by rfl, fun X hX => ?_⟩) hS ?_
              · go_simp
              refine wpAnyH_ready (rs := [8]) (by kernel_rfl) (by simp) ?_
              refine (AllReadyH.cons rfl (fun K hK => ?_) AllReadyH.nil)
              go_simp
              have k4 : Mod (fun _ => False) Y2 (Y2.alloc (.cells #[.string ⟨#[]⟩, .string ⟨#[]⟩] 52)) := (Mod.refl _ _).alloc _
              have b4 : Blk (Y2.alloc (.cells #[.string ⟨#[]⟩, .string ⟨#[]⟩] 52)) Y2.heap.size #[.string ⟨#[]⟩, .string ⟨#[]⟩] 52 := Blk.new Y2 _ _
              have lt4 := u2.lt
              have z4 := u2.mod.size
              have u4 := u2.still k4
              have n4 := n2.keptF k4
              have o4 := o2.keptF k4
              refine hK.out _ _ n4.byts (fun hS => ?_)
              clear hK K
              refine wpAnyH_ready (rs := [9]) (by kernel_rfl) (by simp) ?_
              refine (AllReadyH.cons rfl (fun K hK => ?_) AllReadyH.nil)
              have c0 := b4.cellAt 0 rfl
              have c1 := b4.cellAt 1 rfl
              have f0 := b4.free 0
              have f1 := b4.free 1
              go_simp
              clear c0 c1 f0 f1
              have kZ : Mod (fun _ => False) Y2 (Y2.alloc (.cells #[.string st1, .string st2] 52)) := (Mod.refl _ _).alloc _
              have bZ : Blk (Y2.alloc (.cells #[.string st1, .string st2] 52)) Y2.heap.size #[.string st1, .string st2] 52 := Blk.new Y2 _ _
              have HU9 := Lib.hid (u2.still kZ)
              have HB9 := Lib.hid bZ
              refine hK.out _ _ (n2.keptF kZ).byts (fun hS => ?_)
              clear hK K
              refine wpAnyH_done (by kernel_rfl) ?_ _
              clear hS kZ bZ hd
              generalize (Y2.alloc (.cells #[.string st1, .string st2] 52)) = Z at *
              generalize Y2.heap.size = fb at *
              have hb := bad_any HU9.out.rd
              by_cases he : s5.e = 0
              · rw [he] at hb
                rw [if_neg (by simp [he])] at HSTEP
                clear he
                obtain ⟨L, hL⟩ : ∃ x, x = acc ++ [(⟨nm, vl⟩ : Fd)] := ⟨_, rfl⟩
                rw [← hL] at HSTEP
                have HLL := Lib.hid hL
                have HFL : Hid (FldV (Z.alloc (.cells #[.string st1, .string st2] 52)) (.slice (some ⟨Z.heap.size, 0, none⟩) 1 1) [⟨nm, vl⟩]) := by
                  show FldV _ _ _
                  rw [HST1.out, HST2.out]
                  exact fld_one Z ⟨nm, vl⟩
                have HZ : Hid (w.heap.size ≤ (Z.alloc (.cells #[.string st1, .string st2] 52)).heap.size) := (HU9.out.mod.alloc _).size
                have HOK : Hid (FdsOk L) := by
                  show FdsOk L
                  rw [hL]
                  intro f hf
                  rcases List.mem_append.1 hf with h | h
                  · have := (fds_good HG.out).2 f h
                    omega
                  · have := List.mem_singleton.1 h
                    subst this
                    exact ⟨by have := HLEN.out.2.1; rw [← HNN.out] at this; exact this, HLEN.out.2.2⟩
                have HLK : Hid (L.length = k + 1) := by show _ = _; rw [hL]; simp [HA.out]
                clear hL
                go_wp2_with (first
                  | (go_at_call 35; refine hb.mono ?_; rintro e w' ⟨rfl, rfl⟩)
                  | ((with_reducible refine wpList_load_blk ?_ 52 (.tmp 7) ?_ fb ?_ #[.string st1, .string st2] 52 _ HB9.out Tryd.underlying52 rfl (size52 _ _) ?_); (· exact rfl); (· exact rfl); (· exact rfl))
                  | ((with_reducible refine wpList_append_f ?_ (.tmp 33) (.tmp 35) ?_ (.slice ap k cp) acc w.heap.size ?_ (HU9.out.own.alloc _) (.slice (some ⟨Z.heap.size, 0, none⟩) 1 1) [⟨nm, vl⟩] ?_ HFL.out (k + 1) ?_ ?_ HZ.out L HLL.out ?_); (· exact rfl); (· exact rfl); (· exact rfl); (· exact rfl); (· have := HA.out; simp only [List.length_cons, List.length_nil]; omega); (· omega); intro ap2 cp2 Y ho hg; have HU10 := Lib.hid ((HU9.out.still ((Mod.refl (fun _ => False) Z).alloc _)).app hg ho); clear ho hg)
                  | fail)
                have HX := Lib.hid (flds_any (l := L) (HUT.out.kept HU10.out.mod) (by have := HU10.out.own.fldv; exact this) (by have := HLK.out; omega) HOK.out)
                generalize hB : fieldsB L = B at *
                refine (HX.out).mono ?_
                rintro e w5 ⟨rfl, hM5⟩
                have HU11 := Lib.hid (HU10.out.still hM5)
                clear hM5 HX
                cases B
                · rw [if_pos rfl] at HSTEP
                  go_wp2
                  go_ret2
                  rw [HSTEP.out]
                  exact ⟨_, rfl, (OwnF.nil _ 0).fldv, HU11.out.mod⟩
                · rw [if_neg (by simp)] at HSTEP
                  have h32 := (fds_good hB).1
                  have HBB := Lib.hid hB
                  clear hB
                  go_wp2
                  go_roundw
                  case rel => exact ⟨k + 1, ap2, cp2, rfl, by have := HLK.out; omega, L, s5, HLK, HBB, HU11, HLEN.out.1, by show _ = _; rw [show 34 - (k + 1) = 33 - k by omega]; exact HSTEP.out.symm⟩
                  case measure => simp [lenOfV]; omega
              · rw [if_pos he] at HSTEP
                have he1 : (s5.e == 0) = false := by simpa using he
                clear he
                generalize s5.e = e5 at *
                go_wp2_with (first
                  | (go_at_call 35; refine hb.mono ?_; rintro e w' ⟨rfl, rfl⟩)
                  | fail)
                go_ret2
                rw [HSTEP.out]
                exact ⟨_, rfl, (OwnF.nil _ 0).fldv, HU9.out.mod⟩
            · go_simp
              have k3 : Mod (fun _ => False) Y2 (Y2.alloc (.cells #[.string ⟨#[]⟩, .string ⟨#[]⟩] 52)) := (Mod.refl _ _).alloc _
              have b3 : Blk (Y2.alloc (.cells #[.string ⟨#[]⟩, .string ⟨#[]⟩] 52)) Y2.heap.size #[.string ⟨#[]⟩, .string ⟨#[]⟩] 52 := Blk.new Y2 _ _
              have lt3 := u2.lt
              have z3 := u2.mod.size
              have u3 := u2.still k3
              have n3 := n2.keptF k3
              have o3 := o2.keptF k3
              refine hK.out _ _ n3.byts (fun hS => ?_)
              clear hK K
              refine wpAnyH_ready (rs := [6]) (by kernel_rfl) (by simp) ?_
              refine (AllReadyH.cons rfl (fun K hK => ?_) AllReadyH.nil)
              have hc6 := hcv2 _ _ o3.byts
              go_simp
              clear hc6
              refine hK.out _ _ n3.byts (fun hS => ?_)
              clear hK K
              refine wpAnyH_take (i := 7) (v := .agg #[.string st1, .string st2]) rfl (by kernel_rfl) (by kernel_rfl) (by kernel_rfl) (fun _ _ _ h => h) (Or.inl ⟨by rfl, fun X hX => ?_⟩) hS ?_
              · go_simp
              refine wpAnyH_ready (rs := [9]) (by kernel_rfl) (by simp) ?_
              refine (AllReadyH.cons rfl (fun K hK => ?_) AllReadyH.nil)
              have c0 := b3.cellAt 0 rfl
              have c1 := b3.cellAt 1 rfl
              have f0 := b3.free 0
              have f1 := b3.free 1
              go_simp
              clear c0 c1 f0 f1
              have kZ : Mod (fun _ => False) Y2 (Y2.alloc (.cells #[.string st1, .string st2] 52)) := (Mod.refl _ _).alloc _
              have bZ : Blk (Y2.alloc (.cells #[.string st1, .string st2] 52)) Y2.heap.size #[.string st1, .string st2] 52 := Blk.new Y2 _ _
              have HU9 := Lib.hid (u2.still kZ)
              have HB9 := Lib.hid bZ
              refine hK.out _ _ (n2.keptF kZ).byts (fun hS => ?_)
              clear hK K
              refine wpAnyH_done (by kernel_rfl) ?_ _
              clear hS kZ bZ hd
              generalize (Y2.alloc (.cells #[.string st1, .string st2] 52)) = Z at *
              generalize Y2.heap.size = fb at *
              have hb := bad_any HU9.out.rd
              by_cases he : s5.e = 0
              · rw [he] at hb
                rw [if_neg (by simp [he])] at HSTEP
                clear he
                obtain ⟨L, hL⟩ : ∃ x, x = acc ++ [(⟨nm, vl⟩ : Fd)] := ⟨_, rfl⟩
                rw [← hL] at HSTEP
                have HLL := Lib.hid hL
                have HFL : Hid (FldV (Z.alloc (.cells #[.string st1, .string st2] 52)) (.slice (some ⟨Z.heap.size, 0, none⟩) 1 1) [⟨nm, vl⟩]) := by
                  show FldV _ _ _
                  rw [HST1.out, HST2.out]
                  exact fld_one Z ⟨nm, vl⟩
                have HZ : Hid (w.heap.size ≤ (Z.alloc (.cells #[.string st1, .string st2] 52)).heap.size) := (HU9.out.mod.alloc _).size
                have HOK : Hid (FdsOk L) := by
                  show FdsOk L
                  rw [hL]
                  intro f hf
                  rcases List.mem_append.1 hf with h | h
                  · have := (fds_good HG.out).2 f h
                    omega
                  · have := List.mem_singleton.1 h
                    subst this
                    exact ⟨by have := HLEN.out.2.1; rw [← HNN.out] at this; exact this, HLEN.out.2.2⟩
                have HLK : Hid (L.length = k + 1) := by show _ = _; rw [hL]; simp [HA.out]
                clear hL
                go_wp2_with (first
                  | (go_at_call 35; refine hb.mono ?_; rintro e w' ⟨rfl, rfl⟩)
                  | ((with_reducible refine wpList_load_blk ?_ 52 (.tmp 7) ?_ fb ?_ #[.string st1, .string st2] 52 _ HB9.out Tryd.underlying52 rfl (size52 _ _) ?_); (· exact rfl); (· exact rfl); (· exact rfl))
                  | ((with_reducible refine wpList_append_f ?_ (.tmp 33) (.tmp 35) ?_ (.slice ap k cp) acc w.heap.size ?_ (HU9.out.own.alloc _) (.slice (some ⟨Z.heap.size, 0, none⟩) 1 1) [⟨nm, vl⟩] ?_ HFL.out (k + 1) ?_ ?_ HZ.out L HLL.out ?_); (· exact rfl); (· exact rfl); (· exact rfl); (· exact rfl); (· have := HA.out; simp only [List.length_cons, List.length_nil]; omega); (· omega); intro ap2 cp2 Y ho hg; have HU10 := Lib.hid ((HU9.out.still ((Mod.refl (fun _ => False) Z).alloc _)).app hg ho); clear ho hg)
                  | fail)
                have HX := Lib.hid (flds_any (l := L) (HUT.out.kept HU10.out.mod) (by have := HU10.out.own.fldv; exact this) (by have := HLK.out; omega) HOK.out)
                generalize hB : fieldsB L = B at *
                refine (HX.out).mono ?_
                rintro e w5 ⟨rfl, hM5⟩
                have HU11 := Lib.hid (HU10.out.still hM5)
                clear hM5 HX
                cases B
                · rw [if_pos rfl] at HSTEP
                  go_wp2
                  go_ret2
                  rw [HSTEP.out]
                  exact ⟨_, rfl, (OwnF.nil _ 0).fldv, HU11.out.mod⟩
                · rw [if_neg (by simp)] at HSTEP
                  have h32 := (fds_good hB).1
                  have HBB := Lib.hid hB
                  clear hB
                  go_wp2
                  go_roundw
                  case rel => exact ⟨k + 1, ap2, cp2, rfl, by have := HLK.out; omega, L, s5, HLK, HBB, HU11, HLEN.out.1, by show _ = _; rw [show 34 - (k + 1) = 33 - k by omega]; exact HSTEP.out.symm⟩
                  case measure => simp [lenOfV]; omega
              · rw [if_pos he] at HSTEP
                have he1 : (s5.e == 0) = false := by simpa using he
                clear he
                generalize s5.e = e5 at *
                go_wp2_with (first
                  | (go_at_call 35; refine hb.mono ?_; rintro e w' ⟨rfl, rfl⟩)
                  | fail)
                go_ret2
                rw [HSTEP.out]
                exact ⟨_, rfl, (OwnF.nil _ 0).fldv, HU9.out.mod⟩
          · go_simp
            have k2 : Mod (fun _ => False) Y1 (Y1.alloc (.cells #[.string ⟨#[]⟩, .string ⟨#[]⟩] 52)) := (Mod.refl _ _).alloc _
            have b2 : Blk (Y1.alloc (.cells #[.string ⟨#[]⟩, .string ⟨#[]⟩] 52)) Y1.heap.size #[.string ⟨#[]⟩, .string ⟨#[]⟩] 52 := Blk.new Y1 _ _
            have lt2 := u1.lt
            have z2 := u1.mod.size
            have u2 := u1.still k2
            have n2 := n1.keptF k2
            refine hK.out _ _ n2.byts (fun hS => ?_)
            clear hK K
            refine wpAnyH_ready (rs := [5]) (by kernel_rfl) (by simp) ?_
            refine (AllReadyH.cons rfl (fun K hK => ?_) AllReadyH.nil)
            go_simp
            refine (HY2.out _ u2.rd).mono ?_
            rintro e Y3 ⟨v3, rfl, ho3, hr3, hk3⟩
            have u3 := u2.step hr3 hk3
            have n3 := n2.rdr u2.rd hk3
            have b3 := hk3.blk b2 (rdr_ne u2.rd b2 (by decide))
            obtain ⟨av, cv, rfl, _⟩ := byts_val ho3.byts
            have o3 := OwnB.mono ho3 (Nat.zero_le _)
            refine hK.out _ _ n3.byts (fun hS => ?_)
            clear hK K
            refine wpAnyH_ready (rs := [6]) (by kernel_rfl) (by simp) ?_
            refine (AllReadyH.cons rfl (fun K hK => ?_) AllReadyH.nil)
            have hc6 := hcv2 _ _ o3.byts
            go_simp
            clear hc6
            refine hK.out _ _ n3.byts (fun hS => ?_)
            clear hK K
            refine wpAnyH_take (i := 7) (v := .agg #[.string st1, .string st2]) rfl (by kernel_rfl) (by kernel_rfl) (by kernel_rfl) (fun _ _ _ h => h) (Or.inl ⟨by rfl, fun X hX => ?_⟩) hS ?_
            · go_simp
            refine wpAnyH_ready (rs := [9]) (by kernel_rfl) (by simp) ?_
            refine (AllReadyH.cons rfl (fun K hK => ?_) AllReadyH.nil)
            have c0 := b3.cellAt 0 rfl
            have c1 := b3.cellAt 1 rfl
            have f0 := b3.free 0
            have f1 := b3.free 1
            go_simp
            clear c0 c1 f0 f1
            have kZ : Mod (fun j => j = Y1.heap.size) Y3 ((Y3.setCell ⟨Y1.heap.size, 0, none⟩ (.string st1)).setCell ⟨Y1.heap.size, 1, none⟩ (.string st2)) := mod_put2 _ _ _ _
            have bZ : Blk ((Y3.setCell ⟨Y1.heap.size, 0, none⟩ (.string st1)).setCell ⟨Y1.heap.size, 1, none⟩ (.string st2)) Y1.heap.size #[.string st1, .string st2] 52 := (b3.set 0 (.string st1)).set 1 (.string st2)
            have HU9 := Lib.hid (u3.put b3 lt2 kZ z2)
            have HB9 := Lib.hid bZ
            refine hK.out _ _ (n3.fput b3 kZ).byts (fun hS => ?_)
            clear hK K
            refine wpAnyH_done (by kernel_rfl) ?_ _
            clear hS kZ bZ hd
            generalize ((Y3.setCell ⟨Y1.heap.size, 0, none⟩ (.string st1)).setCell ⟨Y1.heap.size, 1, none⟩ (.string st2)) = Z at *
            generalize Y1.heap.size = fb at *
            have hb := bad_any HU9.out.rd
            by_cases he : s5.e = 0
            · rw [he] at hb
              rw [if_neg (by simp [he])] at HSTEP
              clear he
              obtain ⟨L, hL⟩ : ∃ x, x = acc ++ [(⟨nm, vl⟩ : Fd)] := ⟨_, rfl⟩
              rw [← hL] at HSTEP
              have HLL := Lib.hid hL
              have HFL : Hid (FldV (Z.alloc (.cells #[.string st1, .string st2] 52)) (.slice (some ⟨Z.heap.size, 0, none⟩) 1 1) [⟨nm, vl⟩]) := by
                show FldV _ _ _
                rw [HST1.out, HST2.out]
                exact fld_one Z ⟨nm, vl⟩
              have HZ : Hid (w.heap.size ≤ (Z.alloc (.cells #[.string st1, .string st2] 52)).heap.size) := (HU9.out.mod.alloc _).size
              have HOK : Hid (FdsOk L) := by
                show FdsOk L
                rw [hL]
                intro f hf
                rcases List.mem_append.1 hf with h | h
                · have := (fds_good HG.out).2 f h
                  omega
                · have := List.mem_singleton.1 h
                  subst this
                  exact ⟨by have := HLEN.out.2.1; rw [← HNN.out] at this; exact this, HLEN.out.2.2⟩
              have HLK : Hid (L.length = k + 1) := by show _ = _; rw [hL]; simp [HA.out]
              clear hL
              go_wp2_with (first
                | (go_at_call 35; refine hb.mono ?_; rintro e w' ⟨rfl, rfl⟩)
                | ((with_reducible refine wpList_load_blk ?_ 52 (.tmp 7) ?_ fb ?_ #[.string st1, .string st2] 52 _ HB9.out Tryd.underlying52 rfl (size52 _ _) ?_); (· exact rfl); (· exact rfl); (· exact rfl))
                | ((with_reducible refine wpList_append_f ?_ (.tmp 33) (.tmp 35) ?_ (.slice ap k cp) acc w.heap.size ?_ (HU9.out.own.alloc _) (.slice (some ⟨Z.heap.size, 0, none⟩) 1 1) [⟨nm, vl⟩] ?_ HFL.out (k + 1) ?_ ?_ HZ.out L HLL.out ?_); (· exact rfl); (· exact rfl); (· exact rfl); (· exact rfl); (· have := HA.out; simp only [List.length_cons, List.length_nil]; omega); (· omega); intro ap2 cp2 Y ho hg; have HU10 := Lib.hid ((HU9.out.still ((Mod.refl (fun _ => False) Z).alloc _)).app hg ho); clear ho hg)
                | fail)
              have HX := Lib.hid (flds_any (l := L) (HUT.out.kept HU10.out.mod) (by have := HU10.out.own.fldv; exact this) (by have := HLK.out; omega) HOK.out)
              generalize hB : fieldsB L = B at *
              refine (HX.out).mono ?_
              rintro e w5 ⟨rfl, hM5⟩
              have HU11 := Lib.hid (HU10.out.still hM5)
              clear hM5 HX
              cases B
              · rw [if_pos rfl] at HSTEP
                go_wp2
                go_ret2
                rw [HSTEP.out]
                exact ⟨_, rfl, (OwnF.nil _ 0).fldv, HU11.out.mod⟩
              · rw [if_neg (by simp)] at HSTEP
                have h32 := (fds_good hB).1
                have HBB := Lib.hid hB
                clear hB
                go_wp2
                go_roundw
                case rel => exact ⟨k + 1, ap2, cp2, rfl, by have := HLK.out; omega, L, s5, HLK, HBB, HU11, HLEN.out.1, by show _ = _; rw [show 34 - (k + 1) = 33 - k by omega]; exact HSTEP.out.symm⟩
                case measure => simp [lenOfV]; omega
            · rw [if_pos he] at HSTEP
              have he1 : (s5.e == 0) = false := by simpa using he
              clear he
              generalize s5.e = e5 at *
              go_wp2_with (first
                | (go_at_call 35; refine hb.mono ?_; rintro e w' ⟨rfl, rfl⟩)
                | fail)
              go_ret2
              rw [HSTEP.out]
              exact ⟨_, rfl, (OwnF.nil _ 0).fldv, HU9.out.mod⟩
        · go_simp
          have k1 : Mod (fun _ => False) wx.drew (wx.drew.alloc (.cells #[.string ⟨#[]⟩, .string ⟨#[]⟩] 52)) := (Mod.refl _ _).alloc _
          have b1 : Blk (wx.drew.alloc (.cells #[.string ⟨#[]⟩, .string ⟨#[]⟩] 52)) wx.heap.size #[.string ⟨#[]⟩, .string ⟨#[]⟩] 52 := Blk.new wx.drew _ _
          have lt1 := u0.lt
          have z1 := u0.mod.size
          have u1 := u0.still k1
          have n1 := n0.keptF k1
          refine hK.out _ _ n1.byts (fun hS => ?_)
          clear hK K
          refine wpAnyH_ready (rs := [4]) (by kernel_rfl) (by simp) ?_
          refine (AllReadyH.cons rfl (fun K hK => ?_) AllReadyH.nil)
          go_simp
          refine (HI2.out _ u1.rd).mono ?_
          rintro e Y2 ⟨rfl, hr2, hk2⟩
          have u2 := u1.step hr2 hk2
          have n2 := n1.rdr u1.rd hk2
          have b2 := hk2.blk b1 (rdr_ne u1.rd b1 (by decide))
          refine hK.out _ _ n2.byts (fun hS => ?_)
          clear hK K
          refine wpAnyH_ready (rs := [5]) (by kernel_rfl) (by simp) ?_
          refine (AllReadyH.cons rfl (fun K hK => ?_) AllReadyH.nil)
          go_simp
          refine (HY2.out _ u2.rd).mono ?_
          rintro e Y3 ⟨v3, rfl, ho3, hr3, hk3⟩
          have u3 := u2.step hr3 hk3
          have n3 := n2.rdr u2.rd hk3
          have b3 := hk3.blk b2 (rdr_ne u2.rd b2 (by decide))
          obtain ⟨av, cv, rfl, _⟩ := byts_val ho3.byts
          have o3 := OwnB.mono ho3 (Nat.zero_le _)
          refine hK.out _ _ n3.byts (fun hS => ?_)
          clear hK K
          refine wpAnyH_ready (rs := [6]) (by kernel_rfl) (by simp) ?_
          refine (AllReadyH.cons rfl (fun K hK => ?_) AllReadyH.nil)
          have hc6 := hcv2 _ _ o3.byts
          go_simp
          clear hc6
          refine hK.out _ _ n3.byts (fun hS => ?_)
          clear hK K
          refine wpAnyH_take (i := 7) (v := .agg #[.string st1, .string st2]) rfl (by kernel_rfl) (by kernel_rfl) (by kernel_rfl) (fun _ _ _ h => h) (Or.inl ⟨by rfl, fun X hX => ?_⟩) hS ?_
          · go_simp
          refine wpAnyH_ready (rs := [9]) (by kernel_rfl) (by simp) ?_
          refine (AllReadyH.cons rfl (fun K hK => ?_) AllReadyH.nil)
          have c0 := b3.cellAt 0 rfl
          have c1 := b3.cellAt 1 rfl
          have f0 := b3.free 0
          have f1 := b3.free 1
          go_simp
          clear c0 c1 f0 f1
          have kZ : Mod (fun j => j = wx.heap.size) Y3 ((Y3.setCell ⟨wx.heap.size, 0, none⟩ (.string st1)).setCell ⟨wx.heap.size, 1, none⟩ (.string st2)) := mod_put2 _ _ _ _
          have bZ : Blk ((Y3.setCell ⟨wx.heap.size, 0, none⟩ (.string st1)).setCell ⟨wx.heap.size, 1, none⟩ (.string st2)) wx.heap.size #[.string st1, .string st2] 52 := (b3.set 0 (.string st1)).set 1 (.string st2)
          have HU9 := Lib.hid (u3.put b3 lt1 kZ z1)
          have HB9 := Lib.hid bZ
          refine hK.out _ _ (n3.fput b3 kZ).byts (fun hS => ?_)
          clear hK K
          refine wpAnyH_done (by kernel_rfl) ?_ _
          clear hS kZ bZ hd
          generalize ((Y3.setCell ⟨wx.heap.size, 0, none⟩ (.string st1)).setCell ⟨wx.heap.size, 1, none⟩ (.string st2)) = Z at *
          generalize wx.heap.size = fb at *
          have hb := bad_any HU9.out.rd
          by_cases he : s5.e = 0
          · rw [he] at hb
            rw [if_neg (by simp [he])] at HSTEP
            clear he
            obtain ⟨L, hL⟩ : ∃ x, x = acc ++ [(⟨nm, vl⟩ : Fd)] := ⟨_, rfl⟩
            rw [← hL] at HSTEP
            have HLL := Lib.hid hL
            have HFL : Hid (FldV (Z.alloc (.cells #[.string st1, .string st2] 52)) (.slice (some ⟨Z.heap.size, 0, none⟩) 1 1) [⟨nm, vl⟩]) := by
              show FldV _ _ _
              rw [HST1.out, HST2.out]
              exact fld_one Z ⟨nm, vl⟩
            have HZ : Hid (w.heap.size ≤ (Z.alloc (.cells #[.string st1, .string st2] 52)).heap.size) := (HU9.out.mod.alloc _).size
            have HOK : Hid (FdsOk L) := by
              show FdsOk L
              rw [hL]
              intro f hf
              rcases List.mem_append.1 hf with h | h
              · have := (fds_good HG.out).2 f h
                omega
              · have := List.mem_singleton.1 h
                subst this
                exact ⟨by have := HLEN.out.2.1; rw [← HNN.out] at this; exact this, HLEN.out.2.2⟩
            have HLK : Hid (L.length = k + 1) := by show _ = _; rw [hL]; simp [HA.out]
            clear hL
            go_wp2_with (first
              | (go_at_call 35; refine hb.mono ?_; rintro e w' ⟨rfl, rfl⟩)
              | ((with_reducible refine wpList_load_blk ?_ 52 (.tmp 7) ?_ fb ?_ #[.string st1, .string st2] 52 _ HB9.out Tryd.underlying52 rfl (size52 _ _) ?_); (· exact rfl); (· exact rfl); (· exact rfl))
              | ((with_reducible refine wpList_append_f ?_ (.tmp 33) (.tmp 35) ?_ (.slice ap k cp) acc w.heap.size ?_ (HU9.out.own.alloc _) (.slice (some ⟨Z.heap.size, 0, none⟩) 1 1) [⟨nm, vl⟩] ?_ HFL.out (k + 1) ?_ ?_ HZ.out L HLL.out ?_); (· exact rfl); (· exact rfl); (· exact rfl); (· exact rfl); (· have := HA.out; simp only [List.length_cons, List.length_nil]; omega); (· omega); intro ap2 cp2 Y ho hg; have HU10 := Lib.hid ((HU9.out.still ((Mod.refl (fun _ => False) Z).alloc _)).app hg ho); clear ho hg)
              | fail)
            have HX := Lib.hid (flds_any (l := L) (HUT.out.kept HU10.out.mod) (by have := HU10.out.own.fldv; exact this) (by have := HLK.out; omega) HOK.out)
            generalize hB : fieldsB L = B at *
            refine (HX.out).mono ?_
            rintro e w5 ⟨rfl, hM5⟩
            have HU11 := Lib.hid (HU10.out.still hM5)
            clear hM5 HX
            cases B
            · rw [if_pos rfl] at HSTEP
              go_wp2
              go_ret2
              rw [HSTEP.out]
              exact ⟨_, rfl, (OwnF.nil _ 0).fldv, HU11.out.mod⟩
            · rw [if_neg (by simp)] at HSTEP
              have h32 := (fds_good hB).1
              have HBB := Lib.hid hB
              clear hB
              go_wp2
              go_roundw
              case rel => exact ⟨k + 1, ap2, cp2, rfl, by have := HLK.out; omega, L, s5, HLK, HBB, HU11, HLEN.out.1, by show _ = _; rw [show 34 - (k + 1) = 33 - k by omega]; exact HSTEP.out.symm⟩
              case measure => simp [lenOfV]; omega
          · rw [if_pos he] at HSTEP
            have he1 : (s5.e == 0) = false := by simpa using he
            clear he
            generalize s5.e = e5 at *
            go_wp2_with (first
              | (go_at_call 35; refine hb.mono ?_; rintro e w' ⟨rfl, rfl⟩)
              | fail)
            go_ret2
            rw [HSTEP.out]
            exact ⟨_, rfl, (OwnF.nil _ 0).fldv, HU9.out.mod⟩
      · have HC1 : Hid (c ≠ 32) := by show ¬ _; rw [HC.out]; exact hz
        rw [if_pos HC1.out] at HSTEP
        clear HC HC1
        have hz1 : (z == 32) = false := by simpa using hz
        go_wp2_with fail
        go_ret2
        rw [HSTEP.out]
        exact ⟨_, rfl, (OwnF.nil _ 0).fldv, HS2.out.mod⟩
end Go.Proofs.YtcnpiclpdgkngaaDoor
