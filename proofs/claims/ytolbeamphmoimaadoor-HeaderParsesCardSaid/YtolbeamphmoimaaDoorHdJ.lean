/- The document's Put of a long header. -/
import Derived.Test.YtolbeamphmoimaaDoorHdI
import Derived.Deep.RegionHeld3
import Derived.IntWalk
import Derived.Deep.DeepCutAuto
namespace Go.Proofs.YtolbeamphmoimaaDoor
open Go.RowKit

theorem u8_rem1 (n : Nat) : Value.int .u8 ((n : Int) % 256) = bv (UInt8.ofNat n) := by
  unfold bv; congr 1
theorem u8_rem (n k : Nat) : Value.int .u8 ((n : Int) / (k : Int) % 256) = bv (UInt8.ofNat (n / k)) := by
  have e : (n : Int) / (k : Int) = ((n / k : Nat) : Int) := by simp
  rw [e]; exact u8_rem1 _


set_option maxHeartbeats 4000000 in
set_option maxRecDepth 10000 in
theorem refhput_long {w : World} {h : Hd} {d s t c : Value} (hv : HdV w h d s t c) (hr : rightB h = true) (hl : h.long = true) :
    Calls Tryd.prog 16 #[hdV h d s t c] w fun e w' => ∃ v, e = .returned v ∧ OwnB w' w.heap.size v (hputL h) ∧ Mod (fun _ => False) w w' := by
  have HR := Lib.hid (refright_any (hv.kept ((Mod.refl (fun _ => False) w).alloc (.cells (hdV h d s t c).cells 25))))
  obtain ⟨l1, l2, l3, l4, l5, l6⟩ := right_len hr
  obtain ⟨k1, k2, k3⟩ := right_long hr hl
  rw [hr] at HR
  have hver := hv.ver
  have HRR := Lib.hid hr
  have HL := Lib.hid hl
  obtain ⟨da, dc, rfl, _⟩ := byts_val hv.d
  obtain ⟨sa, sc, rfl, _⟩ := byts_val hv.s
  obtain ⟨ta, tc, rfl, _⟩ := byts_val hv.t
  obtain ⟨ca, cc, rfl, _⟩ := byts_val hv.c
  have hcut : Hid (Byts w (.slice ca h.cut.length cc) h.cut) := hv.c
  have hdst : Hid (Byts w (.slice da h.dst.length dc) h.dst) := hv.d
  have hsrc : Hid (Byts w (.slice sa h.src.length sc) h.src) := hv.s
  have htok : Hid (Byts w (.slice ta h.tok.length tc) h.tok) := hv.t
  unfold hdV at HR ⊢
  obtain ⟨R, hR⟩ : ∃ R, R = hputL h := ⟨_, rfl⟩
  rw [← hR]
  have HRE := Lib.hid hR
  clear hv hR
  obtain ⟨nc, hnc⟩ : ∃ nc, nc = h.cut.length := ⟨_, rfl⟩
  obtain ⟨nd, hnd⟩ : ∃ nd, nd = h.dst.length := ⟨_, rfl⟩
  obtain ⟨ns, hns⟩ : ∃ ns, ns = h.src.length := ⟨_, rfl⟩
  obtain ⟨nt, hnt⟩ : ∃ nt, nt = h.tok.length := ⟨_, rfl⟩
  obtain ⟨ve, hve⟩ : ∃ ve, ve = h.ver := ⟨_, rfl⟩
  obtain ⟨re, hre⟩ : ∃ re : Nat, (re : Int) = h.rest := ⟨h.rest.toNat, by omega⟩
  rw [← hnc] at HR hcut l1 l2 ⊢
  rw [← hnd] at HR hdst l3 ⊢
  rw [← hns] at HR hsrc l4 ⊢
  rw [← hnt] at HR htok k2 k3 ⊢
  rw [← hve] at HR hver ⊢
  rw [← hre] at HR l5 l6 ⊢
  rw [hl, k1] at HR ⊢
  have HC := Lib.hid hnc
  have HD := Lib.hid hnd
  have HS := Lib.hid hns
  have HTK := Lib.hid hnt
  have HVE := Lib.hid hve
  have HRS := Lib.hid hre
  have HK := Lib.hid k3
  have hk2 : Hid (h.kind = 0 ∨ h.kind = 2) := k3.imp id And.left
  clear hr hl hnc hnd hns hnt hve hre k1 k3
  have l1i : (1 : Int) ≤ nc := by omega
  have l2i : (nc : Int) ≤ 4 := by omega
  have l3i : (nd : Int) ≤ 20 := by omega
  have l4i : (ns : Int) ≤ 20 := by omega
  have l6i : (re : Int) ≤ 1200 := by omega
  have k2i : (nt : Int) ≤ 200 := by omega
  rcases hk2.out with e | e
  · have HK0 := Lib.hid e
    rw [e] at HR ⊢
    clear e
    have HV5 : Hid (#[Value.int .u8 (192 + (nc : Int) - 1), .int .u8 ((ve : Int) / 16777216), .int .u8 ((ve : Int) / 65536 % 256), .int .u8 ((ve : Int) / 256 % 256), .int .u8 ((ve : Int) % 256)] = (([UInt8.ofNat (192 + (nc - 1)), UInt8.ofNat (ve / 16777216), UInt8.ofNat (ve / 65536), UInt8.ofNat (ve / 256), UInt8.ofNat ve] : List UInt8).map bv).toArray) := by
      show _ = _
      have e0 : (192 + (nc : Int) - 1) = ((192 + (nc - 1) : Nat) : Int) := by omega
      have e1 : ((ve : Int) / 16777216) = ((ve / 16777216 : Nat) : Int) := by omega
      have e2 : ((ve : Int) / 65536) = ((ve / 65536 : Nat) : Int) := by omega
      have e3 : ((ve : Int) / 256) = ((ve / 256 : Nat) : Int) := by omega
      rw [e0, e1, e2, e3, u8_val _ (by omega), u8_val _ (by omega), u8_rem1, u8_rem1, u8_rem1]
      rfl
    obtain ⟨L5, hL5⟩ : ∃ L5, L5 = ([UInt8.ofNat (192 + (nc - 1)), UInt8.ofNat (ve / 16777216), UInt8.ofNat (ve / 65536), UInt8.ofNat (ve / 256), UInt8.ofNat ve] : List UInt8) := ⟨_, rfl⟩
    rw [← hL5] at HV5
    have HL5 := Lib.hid hL5
    have hn5 : Hid (L5.length = 5) := by show _ = _; rw [hL5]; rfl
    clear hL5
    have HVd : Hid (#[Value.int .u8 (IntKind.u8.wrap (nd : Int))] = (([UInt8.ofNat nd] : List UInt8).map bv).toArray) := by show _ = _; rw [u8_wrap]; rfl
    have HVs : Hid (#[Value.int .u8 (IntKind.u8.wrap (ns : Int))] = (([UInt8.ofNat ns] : List UInt8).map bv).toArray) := by show _ = _; rw [u8_wrap]; rfl
    obtain ⟨A1, hA1⟩ : ∃ A1, A1 = L5 ++ [UInt8.ofNat nd] := ⟨_, rfl⟩
    obtain ⟨A2, hA2⟩ : ∃ A2, A2 = A1 ++ h.dst := ⟨_, rfl⟩
    obtain ⟨A3, hA3⟩ : ∃ A3, A3 = A2 ++ [UInt8.ofNat ns] := ⟨_, rfl⟩
    obtain ⟨A4, hA4⟩ : ∃ A4, A4 = A3 ++ h.src := ⟨_, rfl⟩
    obtain ⟨A5, hA5⟩ : ∃ A5, A5 = A4 ++ putL nt := ⟨_, rfl⟩
    obtain ⟨A6, hA6⟩ : ∃ A6, A6 = A5 ++ h.tok := ⟨_, rfl⟩
    obtain ⟨A7, hA7⟩ : ∃ A7, A7 = A6 ++ putL (nc + re) := ⟨_, rfl⟩
    have z1 : Hid (L5.length + ([UInt8.ofNat nd] : List UInt8).length = 6) := by show _ = _; rw [hn5.out]; rfl
    have z2 : Hid (A1.length + h.dst.length = 6 + nd) := by show _ = _; rw [hA1, List.length_append, z1.out, HD.out]
    have z3 : Hid (A2.length + ([UInt8.ofNat ns] : List UInt8).length = 7 + nd) := by show _ = _; rw [hA2, List.length_append, z2.out]; simp; omega
    have z4 : Hid (A3.length + h.src.length = 7 + nd + ns) := by show _ = _; rw [hA3, List.length_append, z3.out, HS.out]
    have z5 : Hid (A4.length + (putL nt).length = 7 + nd + ns + szN nt) := by show _ = _; rw [hA4, List.length_append, z4.out, putL_length]
    have z6 : Hid (A5.length + h.tok.length = 7 + nd + ns + szN nt + nt) := by show _ = _; rw [hA5, List.length_append, z5.out, HTK.out]
    obtain ⟨n6, hn6⟩ : ∃ n6, n6 = 7 + nd + ns + szN nt + nt := ⟨_, rfl⟩
    have z6' : Hid (A6.length = n6) := by show _ = _; rw [hA6, List.length_append, z6.out, hn6]
    have HN6 := Lib.hid hn6
    rw [← hn6] at z6
    have l6n : n6 ≤ 300 := by have := szN_le nt; omega
    clear hn6
    have z7 : Hid (A6.length + (putL (nc + re)).length = n6 + szN (nc + re)) := by show _ = _; rw [z6'.out, putL_length]
    have z8 : Hid (A7.length + h.cut.length = n6 + szN (nc + re) + nc) := by show _ = _; rw [hA7, List.length_append, z7.out, HC.out]
    have HFIN : Hid (A7 ++ h.cut = R) := by
      show _ = _
      rw [HRE.out, hput_eq0 HRR.out HL.out HK0.out HC.out HTK.out HVE.out HRS.out, hA7, hA6, hA5, hA4, hA3, hA2, hA1, HL5.out, HD.out, HS.out]
      simp [cidL]
    have q6 : Hid (((6 : Nat) : Int) ≤ 140737488355328) := by show _ ≤ _; omega
    have q2 : Hid (((6 + nd : Nat) : Int) ≤ 140737488355328) := by show _ ≤ _; omega
    have q3 : Hid (((7 + nd : Nat) : Int) ≤ 140737488355328) := by show _ ≤ _; omega
    have q4 : Hid (((7 + nd + ns : Nat) : Int) ≤ 140737488355328) := by show _ ≤ _; omega
    have q5 : Hid (((7 + nd + ns + szN nt : Nat) : Int) ≤ 140737488355328) := by have := szN_le nt; show _ ≤ _; omega
    have q7 : Hid (((n6 : Nat) : Int) ≤ 140737488355328) := by show _ ≤ _; omega
    have q8 : Hid (((n6 + szN (nc + re) : Nat) : Int) ≤ 140737488355328) := by have := szN_le (nc + re); show _ ≤ _; omega
    have q9 : Hid (((n6 + szN (nc + re) + nc : Nat) : Int) ≤ 140737488355328) := by have := szN_le (nc + re); show _ ≤ _; omega
    have EQ2 := Lib.hid hA2
    have EQ4 := Lib.hid hA4
    have EQ5 := Lib.hid hA5
    have EQ6 := Lib.hid hA6
    have EQ7 := Lib.hid hA7
    have EQ1 := Lib.hid hA1
    have EQ3 := Lib.hid hA3
    clear hA1 hA2 hA3 hA4 hA5 hA6 hA7
    have hpt : Hid (∀ X Z : World, ∀ B v l, OwnB X B v l → (X.cell? ⟨w.heap.size, 6, none⟩ = some (.slice ta nt tc) ∧ Mod (fun _ => False) Z X) → Calls Tryd.prog 27 #[.int .u64 (nt : Int)] X fun e Y => ∃ a cp, e = .returned (.slice a (szN nt) cp) ∧ Byts Y (.slice a (szN nt) cp) (putL nt) ∧ OwnB Y B v l ∧ Mod (fun _ => False) X Y ∧ Y.cell? ⟨w.heap.size, 6, none⟩ = some (.slice ta nt tc) ∧ Mod (fun _ => False) Z Y) := by
      rintro X Z B v0 l0 ho0 ⟨m1, m2⟩
      refine (refput_any nt X).mono ?_
      rintro e Y ⟨v, rfl, ho, hM⟩
      have hb := ho.byts
      obtain ⟨a, cp, rfl, _⟩ := byts_val hb
      rw [putL_length] at hb ⊢
      exact ⟨a, cp, rfl, hb, ho0.keptF hM, hM, hM.cellAt m1 (fun h => h), m2.trans hM⟩
    go_enter Tryd.func16, Tryd.ntmps16
    go_wp2_with fail
    refine HR.out.mono ?_
    rintro e w1 ⟨rfl, hM⟩
    have hM1 := Lib.hid (((Mod.refl (fun _ => False) w).alloc _).trans hM)
    have HB : Blk w1 w.heap.size #[.bool true, .bool false, .int .i64 0, .int .u32 (ve : Int), .slice da nd dc, .slice sa ns sc, .slice ta nt tc, .slice ca nc cc, .int .i64 (re : Int)] 25 := hM.blk (Blk.new _ _ _) (fun h => h)
    obtain ⟨c0, c1, c2, c3, c4, c5, c6, c7, c8, hlt⟩ := hd_cells HB
    clear HR HB hM
    have hM0 : Mod (fun _ => False) w1 w1 := Mod.refl _ _
    go_wp2_with fail
    obtain ⟨wa, hwa⟩ : ∃ wa, wa = w1.alloc (.cells #[Value.int .u8 (192 + (nc : Int) - 1), .int .u8 ((ve : Int) / 16777216), .int .u8 ((ve : Int) / 65536 % 256), .int .u8 ((ve : Int) / 256 % 256), .int .u8 ((ve : Int) % 256)] 5) := ⟨_, rfl⟩
    have hMa : Mod (fun _ => False) w1 wa := by rw [hwa]; exact hM0.alloc _
    have hOa : OwnB wa w1.heap.size (.slice (some ⟨w1.heap.size, 0, none⟩) 5 5) L5 := by rw [hwa]; exact own_lit w1 L5 _ 5 _ HV5.out hn5.out (by decide) (Nat.le_refl _)
    rw [← hwa]
    clear hwa
    have a0 := hMa.cellAt c0 (fun h => h)
    have a1 := hMa.cellAt c1 (fun h => h)
    have a2 := hMa.cellAt c2 (fun h => h)
    have a3 := hMa.cellAt c3 (fun h => h)
    have a4 := hMa.cellAt c4 (fun h => h)
    have a5 := hMa.cellAt c5 (fun h => h)
    have a6 := hMa.cellAt c6 (fun h => h)
    have a7 := hMa.cellAt c7 (fun h => h)
    have a8 := hMa.cellAt c8 (fun h => h)
    have m10 := hMa
    go_region_held3 (fun X => X.cell? ⟨w.heap.size, 4, none⟩ = some (.slice da nd dc) ∧ Mod (fun _ => False) w1 X) (first | assumption | (go_split_ands; (repeat' apply And.intro) <;> (first | assumption | (refine cell_ad _ _ _ _ ?_; assumption) | (refine cell_a _ _ _ _ ?_; assumption) | (refine mod_ad _ _ _ ?_; assumption) | (refine mod_a _ _ _ ?_; assumption) | (refine Mod.drew ?_; assumption))))
      (first
        | (refine step_append_b rfl (.tmp 57) (.tmp 62) (by rfl) (.slice (some ⟨w1.heap.size, 0, none⟩) 5 5) L5 w1.heap.size 6 (by rfl) ((hOa).alloc _).drew _ [UInt8.ofNat nd] (by rfl) (byts_drew (byts_lit wa [UInt8.ofNat nd] _ 1 HVd.out rfl (by decide))) A1 EQ1.out z1.out q6.out (hMa.alloc _).drew.size ?_; intro ap1 cp1 W1 A1_; have g1 := A1_.modF (m10.alloc _).drew (Nat.le_refl _); have g1_c := g1.cellAt c4 (fun h => h))
        | (refine step_append_b rfl (.tmp 63) (.tmp 65) (by rfl) (.slice ap1 6 cp1) A1 w1.heap.size (6 + nd) (by rfl) A1_.own _ h.dst (by rfl) (byts_kept hdst.out (hM1.out.trans g1)) A2 EQ2.out z2.out q2.out g1.size ?_; intro ap2 cp2 W2 A2_; have g2 := A2_.modF g1 (Nat.le_refl _); have g2_c := g2.cellAt c4 (fun h => h))
        | fail)
    have hM2 := g2
    have o2 : OwnB W2 w1.heap.size (.slice ap2 (6 + nd) cp2) A2 := A2_.own
    have b0 := hM2.cellAt c0 (fun h => h)
    have b1 := hM2.cellAt c1 (fun h => h)
    have b2 := hM2.cellAt c2 (fun h => h)
    have b3 := hM2.cellAt c3 (fun h => h)
    have b4 := hM2.cellAt c4 (fun h => h)
    have b5 := hM2.cellAt c5 (fun h => h)
    have b6 := hM2.cellAt c6 (fun h => h)
    have b7 := hM2.cellAt c7 (fun h => h)
    have b8 := hM2.cellAt c8 (fun h => h)
    have hlt2 : w1.heap.size ≤ W2.heap.size := hM2.size
    go_wp2_with fail
    have m30 := hM2
    go_region_held3 (fun X => X.cell? ⟨w.heap.size, 5, none⟩ = some (.slice sa ns sc) ∧ Mod (fun _ => False) w1 X) (first | assumption | (go_split_ands; (repeat' apply And.intro) <;> (first | assumption | (refine cell_ad _ _ _ _ ?_; assumption) | (refine cell_a _ _ _ _ ?_; assumption) | (refine mod_ad _ _ _ ?_; assumption) | (refine mod_a _ _ _ ?_; assumption) | (refine Mod.drew ?_; assumption))))
      (first
        | (refine step_append_b rfl (.tmp 67) (.tmp 72) (by rfl) (.slice ap2 (6 + nd) cp2) A2 w1.heap.size (7 + nd) (by rfl) ((o2).alloc _).drew _ [UInt8.ofNat ns] (by rfl) (byts_drew (byts_lit W2 [UInt8.ofNat ns] _ 1 HVs.out rfl (by decide))) A3 EQ3.out z3.out q3.out (hM2.alloc _).drew.size ?_; intro ap3 cp3 W3 A3_; have g3 := A3_.modF (m30.alloc _).drew (Nat.le_refl _); have g3_c := g3.cellAt c5 (fun h => h))
        | (refine step_append_b rfl (.tmp 73) (.tmp 75) (by rfl) (.slice ap3 (7 + nd) cp3) A3 w1.heap.size (7 + nd + ns) (by rfl) A3_.own _ h.src (by rfl) (byts_kept hsrc.out (hM1.out.trans g3)) A4 EQ4.out z4.out q4.out g3.size ?_; intro ap4 cp4 W4 A4_; have g4 := A4_.modF g3 (Nat.le_refl _); have g4_c := g4.cellAt c5 (fun h => h))
        | fail)
    have hM4 := g4
    have o4 : OwnB W4 w1.heap.size (.slice ap4 (7 + nd + ns) cp4) A4 := A4_.own
    have d0 := hM4.cellAt c0 (fun h => h)
    have d1 := hM4.cellAt c1 (fun h => h)
    have d2 := hM4.cellAt c2 (fun h => h)
    have d3 := hM4.cellAt c3 (fun h => h)
    have d4 := hM4.cellAt c4 (fun h => h)
    have d5 := hM4.cellAt c5 (fun h => h)
    have d6 := hM4.cellAt c6 (fun h => h)
    have d7 := hM4.cellAt c7 (fun h => h)
    have d8 := hM4.cellAt c8 (fun h => h)
    have hw0 : IntKind.u64.wrap (nt : Int) = nt := IntWalk.u64_in _ (by omega)
    have m50 := hM4
    go_wp2_with fail
    go_region_held3 (fun X => X.cell? ⟨w.heap.size, 6, none⟩ = some (.slice ta nt tc) ∧ Mod (fun _ => False) w1 X) (first | assumption | (go_split_ands; (repeat' apply And.intro) <;> (first | assumption | (refine cell_ad _ _ _ _ ?_; assumption) | (refine cell_a _ _ _ _ ?_; assumption) | (refine mod_ad _ _ _ ?_; assumption) | (refine mod_a _ _ _ ?_; assumption) | (refine Mod.drew ?_; assumption))))
      (first
        | (go_at_call 27; (first | rw [hw0] | skip); (with_reducible refine (hpt.out _ w1 _ _ _ (OwnB.drew o4) ?_).mono ?_); (first | exact ⟨d6, m50.drew⟩ | assumption | (refine ⟨?_, ?_⟩ <;> assumption)); rintro e Y5 ⟨ap5, cp5, rfl, hb5, ho5, hM5, hc5, hm5⟩)
        | (go_at_call 27; (first | rw [hw0] | skip); (with_reducible refine (hpt.out _ w1 _ _ _ o4 ?_).mono ?_); (first | exact ⟨d6, m50⟩ | assumption | (refine ⟨?_, ?_⟩ <;> assumption)); rintro e Y5 ⟨ap5, cp5, rfl, hb5, ho5, hM5, hc5, hm5⟩)
        | (refine step_append_b rfl (.tmp 80) (.tmp 85) (by rfl) (.slice ap4 (7 + nd + ns) cp4) A4 w1.heap.size (7 + nd + ns + szN nt) (by rfl) ho5 _ (putL nt) (by rfl) hb5 A5 EQ5.out z5.out q5.out hm5.size ?_; intro ap6 cp6 W6 A6_; have g6 := A6_.modF hm5 (Nat.le_refl _); have g6_c := g6.cellAt c6 (fun h => h))
        | (refine step_append_b rfl (.tmp 86) (.tmp 88) (by rfl) (.slice ap6 (7 + nd + ns + szN nt) cp6) A5 w1.heap.size n6 (by rfl) A6_.own _ h.tok (by rfl) (byts_kept htok.out (hM1.out.trans g6)) A6 EQ6.out z6.out q7.out g6.size ?_; intro ap7 cp7 W7 A7_; have g7 := A7_.modF g6 (Nat.le_refl _); have g7_c := g7.cellAt c6 (fun h => h))
        | fail)
    have hM7 := g7
    have o7 : OwnB W7 w1.heap.size (.slice ap7 n6 cp7) A6 := A7_.own
    have e0 := hM7.cellAt c0 (fun h => h)
    have e1 := hM7.cellAt c1 (fun h => h)
    have e2 := hM7.cellAt c2 (fun h => h)
    have e3 := hM7.cellAt c3 (fun h => h)
    have e4 := hM7.cellAt c4 (fun h => h)
    have e5 := hM7.cellAt c5 (fun h => h)
    have e6 := hM7.cellAt c6 (fun h => h)
    have e7 := hM7.cellAt c7 (fun h => h)
    have e8 := hM7.cellAt c8 (fun h => h)
    have hpc : Hid (∀ X, Mod (fun _ => False) w1 X → OwnB X w1.heap.size (.slice ap7 n6 cp7) A6 → Calls Tryd.prog 27 #[.int .u64 ((nc : Int) + re)] X fun e Y => ∃ a cp, e = .returned (.slice a (szN (nc + re)) cp) ∧ Byts Y (.slice a (szN (nc + re)) cp) (putL (nc + re)) ∧ OwnB Y w1.heap.size (.slice ap7 n6 cp7) A6 ∧ Mod (fun _ => False) w1 Y) := by
      intro X m1 ho0
      have hp := refput_any (nc + re) X
      rw [show (((nc + re : Nat)) : Int) = (nc : Int) + re by omega] at hp
      refine hp.mono ?_
      rintro e Y ⟨v, rfl, ho, hM⟩
      have hb := ho.byts
      obtain ⟨a, cp, rfl, _⟩ := byts_val hb
      rw [putL_length] at hb ⊢
      exact ⟨a, cp, rfl, hb, ho0.keptF hM, m1.trans hM⟩
    go_wp2_with (first
        | (go_at_call 27; (with_reducible refine (hpc.out _ hM7 o7).mono ?_); rintro e Y8 ⟨ap8, cp8, rfl, hb8, ho8, hm8⟩; have f7 := hm8.cellAt c7 (fun h => h))
        | (at_builtin; refine wpList_append_b rfl (.tmp 90) (.tmp 98) (by rfl) (.slice ap7 n6 cp7) A6 w1.heap.size (n6 + szN (nc + re)) (by rfl) ho8 _ (putL (nc + re)) (by rfl) hb8 A7 EQ7.out z7.out q8.out hm8.size ?_; intro ap9 cp9 W9 A9_; have g9 := A9_.modF hm8 (Nat.le_refl _); have h7 := g9.cellAt c7 (fun h => h))
        | (at_builtin; refine wpList_append_b rfl (.tmp 100) (.tmp 102) (by rfl) (.slice ap9 (n6 + szN (nc + re)) cp9) A7 w1.heap.size (n6 + szN (nc + re) + nc) (by rfl) A9_.own _ h.cut (by rfl) (byts_kept hcut.out (hM1.out.trans g9)) R HFIN.out.symm z8.out q9.out g9.size ?_; intro ap10 cp10 W10 A10_; have g10 := A10_.modF g9 (Nat.le_refl _))
        | fail)
    go_ret
    exact ⟨_, rfl, A10_.own.mono (by omega), hM1.out.trans g10⟩
  · have HK0 := Lib.hid e
    rw [e] at HR ⊢
    clear e
    have HV5 : Hid (#[Value.int .u8 (224 + (nc : Int) - 1), .int .u8 ((ve : Int) / 16777216), .int .u8 ((ve : Int) / 65536 % 256), .int .u8 ((ve : Int) / 256 % 256), .int .u8 ((ve : Int) % 256)] = (([UInt8.ofNat (224 + (nc - 1)), UInt8.ofNat (ve / 16777216), UInt8.ofNat (ve / 65536), UInt8.ofNat (ve / 256), UInt8.ofNat ve] : List UInt8).map bv).toArray) := by
      show _ = _
      have e0 : (224 + (nc : Int) - 1) = ((224 + (nc - 1) : Nat) : Int) := by omega
      have e1 : ((ve : Int) / 16777216) = ((ve / 16777216 : Nat) : Int) := by omega
      have e2 : ((ve : Int) / 65536) = ((ve / 65536 : Nat) : Int) := by omega
      have e3 : ((ve : Int) / 256) = ((ve / 256 : Nat) : Int) := by omega
      rw [e0, e1, e2, e3, u8_val _ (by omega), u8_val _ (by omega), u8_rem1, u8_rem1, u8_rem1]
      rfl
    obtain ⟨L5, hL5⟩ : ∃ L5, L5 = ([UInt8.ofNat (224 + (nc - 1)), UInt8.ofNat (ve / 16777216), UInt8.ofNat (ve / 65536), UInt8.ofNat (ve / 256), UInt8.ofNat ve] : List UInt8) := ⟨_, rfl⟩
    rw [← hL5] at HV5
    have HL5 := Lib.hid hL5
    have hn5 : Hid (L5.length = 5) := by show _ = _; rw [hL5]; rfl
    clear hL5
    have HVd : Hid (#[Value.int .u8 (IntKind.u8.wrap (nd : Int))] = (([UInt8.ofNat nd] : List UInt8).map bv).toArray) := by show _ = _; rw [u8_wrap]; rfl
    have HVs : Hid (#[Value.int .u8 (IntKind.u8.wrap (ns : Int))] = (([UInt8.ofNat ns] : List UInt8).map bv).toArray) := by show _ = _; rw [u8_wrap]; rfl
    obtain ⟨A1, hA1⟩ : ∃ A1, A1 = L5 ++ [UInt8.ofNat nd] := ⟨_, rfl⟩
    obtain ⟨A2, hA2⟩ : ∃ A2, A2 = A1 ++ h.dst := ⟨_, rfl⟩
    obtain ⟨A3, hA3⟩ : ∃ A3, A3 = A2 ++ [UInt8.ofNat ns] := ⟨_, rfl⟩
    obtain ⟨A4, hA4⟩ : ∃ A4, A4 = A3 ++ h.src := ⟨_, rfl⟩
    obtain ⟨A6, hA6⟩ : ∃ A6, A6 = A4 := ⟨_, rfl⟩
    obtain ⟨A7, hA7⟩ : ∃ A7, A7 = A6 ++ putL (nc + re) := ⟨_, rfl⟩
    have z1 : Hid (L5.length + ([UInt8.ofNat nd] : List UInt8).length = 6) := by show _ = _; rw [hn5.out]; rfl
    have z2 : Hid (A1.length + h.dst.length = 6 + nd) := by show _ = _; rw [hA1, List.length_append, z1.out, HD.out]
    have z3 : Hid (A2.length + ([UInt8.ofNat ns] : List UInt8).length = 7 + nd) := by show _ = _; rw [hA2, List.length_append, z2.out]; simp; omega
    have z4 : Hid (A3.length + h.src.length = 7 + nd + ns) := by show _ = _; rw [hA3, List.length_append, z3.out, HS.out]
    obtain ⟨n6, hn6⟩ : ∃ n6, n6 = 7 + nd + ns := ⟨_, rfl⟩
    have z6' : Hid (A6.length = n6) := by show _ = _; rw [hA6, hA4, List.length_append, z4.out, hn6]
    have HN6 := Lib.hid hn6
    have l6n : n6 ≤ 300 := by omega
    have z4n := z4
    rw [← hn6] at z4n
    clear hn6
    have z7 : Hid (A6.length + (putL (nc + re)).length = n6 + szN (nc + re)) := by show _ = _; rw [z6'.out, putL_length]
    have z8 : Hid (A7.length + h.cut.length = n6 + szN (nc + re) + nc) := by show _ = _; rw [hA7, List.length_append, z7.out, HC.out]
    have HFIN : Hid (A7 ++ h.cut = R) := by
      show _ = _
      rw [HRE.out, hput_eq2 HRR.out HL.out HK0.out HC.out HVE.out HRS.out, hA7, hA6, hA4, hA3, hA2, hA1, HL5.out, HD.out, HS.out]
      simp [cidL]
    have q6 : Hid (((6 : Nat) : Int) ≤ 140737488355328) := by show _ ≤ _; omega
    have q2 : Hid (((6 + nd : Nat) : Int) ≤ 140737488355328) := by show _ ≤ _; omega
    have q3 : Hid (((7 + nd : Nat) : Int) ≤ 140737488355328) := by show _ ≤ _; omega
    have q4 : Hid (((7 + nd + ns : Nat) : Int) ≤ 140737488355328) := by show _ ≤ _; omega
    have q5 : Hid (((7 + nd + ns + szN nt : Nat) : Int) ≤ 140737488355328) := by have := szN_le nt; show _ ≤ _; omega
    have q7 : Hid (((n6 : Nat) : Int) ≤ 140737488355328) := by show _ ≤ _; omega
    have q8 : Hid (((n6 + szN (nc + re) : Nat) : Int) ≤ 140737488355328) := by have := szN_le (nc + re); show _ ≤ _; omega
    have q9 : Hid (((n6 + szN (nc + re) + nc : Nat) : Int) ≤ 140737488355328) := by have := szN_le (nc + re); show _ ≤ _; omega
    have EQ2 := Lib.hid hA2
    have EQ4 := Lib.hid hA4
    have EQ6 := Lib.hid hA6
    have EQ7 := Lib.hid hA7
    have EQ1 := Lib.hid hA1
    have EQ3 := Lib.hid hA3
    clear hA1 hA2 hA3 hA4 hA6 hA7
    have hpt : Hid (∀ X Z : World, ∀ B v l, OwnB X B v l → (X.cell? ⟨w.heap.size, 6, none⟩ = some (.slice ta nt tc) ∧ Mod (fun _ => False) Z X) → Calls Tryd.prog 27 #[.int .u64 (nt : Int)] X fun e Y => ∃ a cp, e = .returned (.slice a (szN nt) cp) ∧ Byts Y (.slice a (szN nt) cp) (putL nt) ∧ OwnB Y B v l ∧ Mod (fun _ => False) X Y ∧ Y.cell? ⟨w.heap.size, 6, none⟩ = some (.slice ta nt tc) ∧ Mod (fun _ => False) Z Y) := by
      rintro X Z B v0 l0 ho0 ⟨m1, m2⟩
      refine (refput_any nt X).mono ?_
      rintro e Y ⟨v, rfl, ho, hM⟩
      have hb := ho.byts
      obtain ⟨a, cp, rfl, _⟩ := byts_val hb
      rw [putL_length] at hb ⊢
      exact ⟨a, cp, rfl, hb, ho0.keptF hM, hM, hM.cellAt m1 (fun h => h), m2.trans hM⟩
    go_enter Tryd.func16, Tryd.ntmps16
    go_wp2_with fail
    refine HR.out.mono ?_
    rintro e w1 ⟨rfl, hM⟩
    have hM1 := Lib.hid (((Mod.refl (fun _ => False) w).alloc _).trans hM)
    have HB : Blk w1 w.heap.size #[.bool true, .bool false, .int .i64 2, .int .u32 (ve : Int), .slice da nd dc, .slice sa ns sc, .slice ta nt tc, .slice ca nc cc, .int .i64 (re : Int)] 25 := hM.blk (Blk.new _ _ _) (fun h => h)
    obtain ⟨c0, c1, c2, c3, c4, c5, c6, c7, c8, hlt⟩ := hd_cells HB
    clear HR HB hM
    have hM0 : Mod (fun _ => False) w1 w1 := Mod.refl _ _
    go_wp2_with fail
    obtain ⟨wa, hwa⟩ : ∃ wa, wa = w1.alloc (.cells #[Value.int .u8 (224 + (nc : Int) - 1), .int .u8 ((ve : Int) / 16777216), .int .u8 ((ve : Int) / 65536 % 256), .int .u8 ((ve : Int) / 256 % 256), .int .u8 ((ve : Int) % 256)] 5) := ⟨_, rfl⟩
    have hMa : Mod (fun _ => False) w1 wa := by rw [hwa]; exact hM0.alloc _
    have hOa : OwnB wa w1.heap.size (.slice (some ⟨w1.heap.size, 0, none⟩) 5 5) L5 := by rw [hwa]; exact own_lit w1 L5 _ 5 _ HV5.out hn5.out (by decide) (Nat.le_refl _)
    rw [← hwa]
    clear hwa
    have a0 := hMa.cellAt c0 (fun h => h)
    have a1 := hMa.cellAt c1 (fun h => h)
    have a2 := hMa.cellAt c2 (fun h => h)
    have a3 := hMa.cellAt c3 (fun h => h)
    have a4 := hMa.cellAt c4 (fun h => h)
    have a5 := hMa.cellAt c5 (fun h => h)
    have a6 := hMa.cellAt c6 (fun h => h)
    have a7 := hMa.cellAt c7 (fun h => h)
    have a8 := hMa.cellAt c8 (fun h => h)
    have m10 := hMa
    go_region_held3 (fun X => X.cell? ⟨w.heap.size, 4, none⟩ = some (.slice da nd dc) ∧ Mod (fun _ => False) w1 X) (first | assumption | (go_split_ands; (repeat' apply And.intro) <;> (first | assumption | (refine cell_ad _ _ _ _ ?_; assumption) | (refine cell_a _ _ _ _ ?_; assumption) | (refine mod_ad _ _ _ ?_; assumption) | (refine mod_a _ _ _ ?_; assumption) | (refine Mod.drew ?_; assumption))))
      (first
        | (refine step_append_b rfl (.tmp 57) (.tmp 62) (by rfl) (.slice (some ⟨w1.heap.size, 0, none⟩) 5 5) L5 w1.heap.size 6 (by rfl) ((hOa).alloc _).drew _ [UInt8.ofNat nd] (by rfl) (byts_drew (byts_lit wa [UInt8.ofNat nd] _ 1 HVd.out rfl (by decide))) A1 EQ1.out z1.out q6.out (hMa.alloc _).drew.size ?_; intro ap1 cp1 W1 A1_; have g1 := A1_.modF (m10.alloc _).drew (Nat.le_refl _); have g1_c := g1.cellAt c4 (fun h => h))
        | (refine step_append_b rfl (.tmp 63) (.tmp 65) (by rfl) (.slice ap1 6 cp1) A1 w1.heap.size (6 + nd) (by rfl) A1_.own _ h.dst (by rfl) (byts_kept hdst.out (hM1.out.trans g1)) A2 EQ2.out z2.out q2.out g1.size ?_; intro ap2 cp2 W2 A2_; have g2 := A2_.modF g1 (Nat.le_refl _); have g2_c := g2.cellAt c4 (fun h => h))
        | fail)
    have hM2 := g2
    have o2 : OwnB W2 w1.heap.size (.slice ap2 (6 + nd) cp2) A2 := A2_.own
    have b0 := hM2.cellAt c0 (fun h => h)
    have b1 := hM2.cellAt c1 (fun h => h)
    have b2 := hM2.cellAt c2 (fun h => h)
    have b3 := hM2.cellAt c3 (fun h => h)
    have b4 := hM2.cellAt c4 (fun h => h)
    have b5 := hM2.cellAt c5 (fun h => h)
    have b6 := hM2.cellAt c6 (fun h => h)
    have b7 := hM2.cellAt c7 (fun h => h)
    have b8 := hM2.cellAt c8 (fun h => h)
    have hlt2 : w1.heap.size ≤ W2.heap.size := hM2.size
    go_wp2_with fail
    have m30 := hM2
    go_region_held3 (fun X => X.cell? ⟨w.heap.size, 5, none⟩ = some (.slice sa ns sc) ∧ Mod (fun _ => False) w1 X) (first | assumption | (go_split_ands; (repeat' apply And.intro) <;> (first | assumption | (refine cell_ad _ _ _ _ ?_; assumption) | (refine cell_a _ _ _ _ ?_; assumption) | (refine mod_ad _ _ _ ?_; assumption) | (refine mod_a _ _ _ ?_; assumption) | (refine Mod.drew ?_; assumption))))
      (first
        | (refine step_append_b rfl (.tmp 67) (.tmp 72) (by rfl) (.slice ap2 (6 + nd) cp2) A2 w1.heap.size (7 + nd) (by rfl) ((o2).alloc _).drew _ [UInt8.ofNat ns] (by rfl) (byts_drew (byts_lit W2 [UInt8.ofNat ns] _ 1 HVs.out rfl (by decide))) A3 EQ3.out z3.out q3.out (hM2.alloc _).drew.size ?_; intro ap3 cp3 W3 A3_; have g3 := A3_.modF (m30.alloc _).drew (Nat.le_refl _); have g3_c := g3.cellAt c5 (fun h => h))
        | (refine step_append_b rfl (.tmp 73) (.tmp 75) (by rfl) (.slice ap3 (7 + nd) cp3) A3 w1.heap.size (7 + nd + ns) (by rfl) A3_.own _ h.src (by rfl) (byts_kept hsrc.out (hM1.out.trans g3)) A4 EQ4.out z4.out q4.out g3.size ?_; intro ap4 cp4 W4 A4_; have g4 := A4_.modF g3 (Nat.le_refl _); have g4_c := g4.cellAt c5 (fun h => h))
        | fail)
    have hM4 := g4
    have o4 : OwnB W4 w1.heap.size (.slice ap4 (7 + nd + ns) cp4) A4 := A4_.own
    have d0 := hM4.cellAt c0 (fun h => h)
    have d1 := hM4.cellAt c1 (fun h => h)
    have d2 := hM4.cellAt c2 (fun h => h)
    have d3 := hM4.cellAt c3 (fun h => h)
    have d4 := hM4.cellAt c4 (fun h => h)
    have d5 := hM4.cellAt c5 (fun h => h)
    have d6 := hM4.cellAt c6 (fun h => h)
    have d7 := hM4.cellAt c7 (fun h => h)
    have d8 := hM4.cellAt c8 (fun h => h)
    have o7 : OwnB W4 w1.heap.size (.slice ap4 (7 + nd + ns) cp4) A6 := by rw [show A6 = A4 from EQ6.out]; exact o4
    have hn6v : Hid (7 + nd + ns = n6) := HN6.out.symm
    have o7 : OwnB W4 w1.heap.size (.slice ap4 n6 cp4) A6 := by rw [← hn6v.out]; exact o7
    rw [hn6v.out]
    have hpc : Hid (∀ X, Mod (fun _ => False) w1 X → OwnB X w1.heap.size (.slice ap4 n6 cp4) A6 → Calls Tryd.prog 27 #[.int .u64 ((nc : Int) + re)] X fun e Y => ∃ a cp, e = .returned (.slice a (szN (nc + re)) cp) ∧ Byts Y (.slice a (szN (nc + re)) cp) (putL (nc + re)) ∧ OwnB Y w1.heap.size (.slice ap4 n6 cp4) A6 ∧ Mod (fun _ => False) w1 Y) := by
      intro X m1 ho0
      have hp := refput_any (nc + re) X
      rw [show (((nc + re : Nat)) : Int) = (nc : Int) + re by omega] at hp
      refine hp.mono ?_
      rintro e Y ⟨v, rfl, ho, hM⟩
      have hb := ho.byts
      obtain ⟨a, cp, rfl, _⟩ := byts_val hb
      rw [putL_length] at hb ⊢
      exact ⟨a, cp, rfl, hb, ho0.keptF hM, m1.trans hM⟩
    go_wp2_with (first
        | (go_at_call 27; (with_reducible refine (hpc.out _ hM4 o7).mono ?_); rintro e Y8 ⟨ap8, cp8, rfl, hb8, ho8, hm8⟩; have f7 := hm8.cellAt c7 (fun h => h))
        | (at_builtin; refine wpList_append_b rfl (.tmp 90) (.tmp 98) (by rfl) (.slice ap4 n6 cp4) A6 w1.heap.size (n6 + szN (nc + re)) (by rfl) ho8 _ (putL (nc + re)) (by rfl) hb8 A7 EQ7.out z7.out q8.out hm8.size ?_; intro ap9 cp9 W9 A9_; have g9 := A9_.modF hm8 (Nat.le_refl _); have h7 := g9.cellAt c7 (fun h => h))
        | (at_builtin; refine wpList_append_b rfl (.tmp 100) (.tmp 102) (by rfl) (.slice ap9 (n6 + szN (nc + re)) cp9) A7 w1.heap.size (n6 + szN (nc + re) + nc) (by rfl) A9_.own _ h.cut (by rfl) (byts_kept hcut.out (hM1.out.trans g9)) R HFIN.out.symm z8.out q9.out g9.size ?_; intro ap10 cp10 W10 A10_; have g10 := A10_.modF g9 (Nat.le_refl _))
        | fail)
    go_ret
    exact ⟨_, rfl, A10_.own.mono (by omega), hM1.out.trans g10⟩
end Go.Proofs.YtolbeamphmoimaaDoor
