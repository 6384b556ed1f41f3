/- The document's Put of parameters. (printed by genrefpput.py) -/
import Derived.Test.YtacgcpofpmkgnaaDoorPaG
namespace Go.Proofs.YtacgcpofpmkgnaaDoor
open Go.RowKit

theorem cell_ad (X : World) (o : Obj) (a : Addr) (v : Value) (h : X.cell? a = some v) : (X.alloc o).drew.cell? a = some v := (((Mod.refl (fun _ => False) X).alloc o).drew).cellAt h (fun h => h)
theorem cell_a (X : World) (o : Obj) (a : Addr) (v : Value) (h : X.cell? a = some v) : (X.alloc o).cell? a = some v := ((Mod.refl (fun _ => False) X).alloc o).cellAt h (fun h => h)
theorem mod_ad (w X : World) (o : Obj) (h : Mod (fun _ => False) w X) : Mod (fun _ => False) w (X.alloc o).drew := (h.alloc o).drew
theorem mod_a (w X : World) (o : Obj) (h : Mod (fun _ => False) w X) : Mod (fun _ => False) w (X.alloc o) := h.alloc o
theorem refonec (id : Nat) (z : Int) (hz : (id : Int) = z) (hi : (id : Int) < 64) (n m : Nat) (L : List UInt8) (hL : L = oneL id n) (hm : m = L.length) (X : World) : Calls Tryd.prog 22 #[.int .u64 z, .int .u64 (n : Int)] X fun e Y => ∃ a cp, e = .returned (.slice a m cp) ∧ OwnB Y X.heap.size (.slice a m cp) L ∧ Mod (fun _ => False) X Y := by
  subst hz hL hm
  refine (refone_any id n X hi).mono ?_
  rintro e Y ⟨v, rfl, ho, hM⟩
  obtain ⟨a, cp, rfl, _⟩ := byts_val ho.byts
  exact ⟨a, cp, rfl, ho, hM⟩

set_option maxHeartbeats 8000000 in
set_option maxRecDepth 10000 in
theorem refpput_may {p : Pm} (h : p.t.length = 16) {w : World} (hm : mayB p = true) : Calls Tryd.prog 14 #[pmV p] w fun e w' => ∃ v, e = .returned v ∧ OwnB w' w.heap.size v (putUp p 4) ∧ Mod (fun _ => False) w w' := by
  have HB := PmB.new w p h
  have hmay := Lib.hid (refmay_any h (w.alloc (.cells (pmC p) 25)))
  rw [hm] at hmay
  have HS := Lib.hid (size25 p h)
  have HBB := Lib.hid HB
  have HLEN := Lib.hid h
  unfold pmV at *
  clear h hm HB
  obtain ⟨C, hC⟩ : ∃ C, C = pmC p := ⟨_, rfl⟩
  rw [← hC] at hmay HS HBB ⊢
  have HC := Lib.hid hC
  clear hC
  obtain ⟨L0, hL0⟩ : ∃ x, x = oneL 1 p.i := ⟨_, rfl⟩
  obtain ⟨m0, hm0⟩ : ∃ m, m = L0.length := ⟨_, rfl⟩
  have hk0 : Hid (m0 ≤ 10) := by show _ ≤ _; rw [hm0, hL0]; exact oneL_len _ _
  have HL0 := Lib.hid hL0
  have HMm0 := Lib.hid hm0
  have HONE0 := Lib.hid (refonec 1 1 rfl (by decide) p.i m0 L0 hL0 hm0)
  clear hL0 hm0
  obtain ⟨L1, hL1⟩ : ∃ x, x = oneL 4 p.d := ⟨_, rfl⟩
  obtain ⟨m1, hm1⟩ : ∃ m, m = L1.length := ⟨_, rfl⟩
  have hk1 : Hid (m1 ≤ 10) := by show _ ≤ _; rw [hm1, hL1]; exact oneL_len _ _
  have HL1 := Lib.hid hL1
  have HMm1 := Lib.hid hm1
  have HONE1 := Lib.hid (refonec 4 4 rfl (by decide) p.d m1 L1 hL1 hm1)
  clear hL1 hm1
  obtain ⟨L2, hL2⟩ : ∃ x, x = oneL 5 p.s := ⟨_, rfl⟩
  obtain ⟨m2, hm2⟩ : ∃ m, m = L2.length := ⟨_, rfl⟩
  have hk2 : Hid (m2 ≤ 10) := by show _ ≤ _; rw [hm2, hL2]; exact oneL_len _ _
  have HL2 := Lib.hid hL2
  have HMm2 := Lib.hid hm2
  have HONE2 := Lib.hid (refonec 5 5 rfl (by decide) p.s m2 L2 hL2 hm2)
  clear hL2 hm2
  obtain ⟨L3, hL3⟩ : ∃ x, x = oneL 8 p.n := ⟨_, rfl⟩
  obtain ⟨m3, hm3⟩ : ∃ m, m = L3.length := ⟨_, rfl⟩
  have hk3 : Hid (m3 ≤ 10) := by show _ ≤ _; rw [hm3, hL3]; exact oneL_len _ _
  have HL3 := Lib.hid hL3
  have HMm3 := Lib.hid hm3
  have HONE3 := Lib.hid (refonec 8 8 rfl (by decide) p.n m3 L3 hL3 hm3)
  clear hL3 hm3
  go_enter Tryd.func14, Tryd.ntmps14
  go_wp2_with (first | ((with_reducible refine wpList_load_blk ?_ 25 (.tmp 1) ?_ w.heap.size ?_ C 25 _ (Blk.new _ _ _) Tryd.underlying25 ?_ HS.out ?_); (· exact rfl); (· exact rfl); (· exact rfl); (· exact rfl)) | (go_at_call 11; refine (hmay.out).mono ?_; rintro e w1 ⟨rfl, hM1⟩; have HP1 := Lib.hid (HBB.out.kept hM1); have HM1 := Lib.hid (((Mod.refl (fun _ => False) w).alloc _).trans hM1); obtain ⟨c0, c1, c2, c3, c4⟩ := HP1.out.cells; clear hM1))
  refine (HONE0.out _).mono ?_
  rintro e w2 ⟨ap, cp, rfl, ho2, hM2⟩
  have HW0 : Hid (PutS w w2 w.heap.size p (.slice ap m0 cp) L0) := ⟨ho2.mono HM1.out.size, HP1.out.kept hM2, HM1.out.trans hM2⟩
  clear c0 c1 c2 c3 c4
  obtain ⟨c0, c1, c2, c3, c4⟩ := HW0.out.pm.cells
  clear ho2 hM2
  cases hh : p.h

  · have HH := Lib.hid hh
    rw [hh] at c4
    clear hh
    have HE := Lib.hid HMm0.out.symm
    have HBD := Lib.hid hk0.out
    go_wp2_with fail
    refine (HONE1.out _).mono ?_
    rintro e v1 ⟨b1, q1, rfl, ho1, hM1⟩
    have HBy1 := Lib.hid ho1.byts
    have HMd1 := Lib.hid hM1
    clear ho1 hM1 c0 c1 c2 c3 c4
    obtain ⟨n1', hn1'⟩ : ∃ x, x = m0 + m1 := ⟨_, rfl⟩
    have HNN1 : Hid ((L0).length + L1.length = n1') := by show _ = _; rw [hn1', HMm1.out, HE.out]
    have HE1 : Hid ((L0 ++ L1).length = n1') := by show _ = _; rw [List.length_append]; exact HNN1.out
    have hbd1 : Hid (n1' ≤ 20) := by show _ ≤ _; have := hk1.out; have := HBD.out; omega
    have HLL1 : Hid ((n1' : Int) ≤ 140737488355328) := by show _ ≤ _; have := hbd1.out; omega
    clear hn1'
    go_wp2_with (at_builtin; go_must (refine wpList_append_b rfl (.tmp 18) (.tmp 21) (by rfl) (.slice ap m0 cp) (L0) w.heap.size n1' (by rfl) (HW0.out.own.keptF HMd1.out) _ L1 (by rfl) HBy1.out _ rfl HNN1.out HLL1.out (HW0.out.mod.trans HMd1.out).size ?_); intro r1 u1 X1 hA1; have HWX1 := Lib.hid (HW0.out.app HMd1.out hA1); clear hA1; obtain ⟨c0, c1, c2, c3, c4⟩ := HWX1.out.pm.cells)
    go_wp2_with fail
    refine (HONE2.out _).mono ?_
    rintro e v2 ⟨b2, q2, rfl, ho2, hM2⟩
    have HBy2 := Lib.hid ho2.byts
    have HMd2 := Lib.hid hM2
    clear ho2 hM2 c0 c1 c2 c3 c4
    obtain ⟨n2', hn2'⟩ : ∃ x, x = n1' + m2 := ⟨_, rfl⟩
    have HNN2 : Hid ((L0 ++ L1).length + L2.length = n2') := by show _ = _; rw [hn2', HMm2.out, HE1.out]
    have HE2 : Hid ((L0 ++ L1 ++ L2).length = n2') := by show _ = _; rw [List.length_append]; exact HNN2.out
    have hbd2 : Hid (n2' ≤ 30) := by show _ ≤ _; have := hk2.out; have := hbd1.out; omega
    have HLL2 : Hid ((n2' : Int) ≤ 140737488355328) := by show _ ≤ _; have := hbd2.out; omega
    clear hn2'
    go_wp2_with (at_builtin; go_must (refine wpList_append_b rfl (.tmp 23) (.tmp 26) (by rfl) (.slice r1 n1' u1) (L0 ++ L1) w.heap.size n2' (by rfl) (HWX1.out.own.keptF HMd2.out) _ L2 (by rfl) HBy2.out _ rfl HNN2.out HLL2.out (HWX1.out.mod.trans HMd2.out).size ?_); intro r2 u2 X2 hA2; have HWX2 := Lib.hid (HWX1.out.app HMd2.out hA2); clear hA2; obtain ⟨c0, c1, c2, c3, c4⟩ := HWX2.out.pm.cells)
    go_wp2_with fail
    refine (HONE3.out _).mono ?_
    rintro e v3 ⟨b3, q3, rfl, ho3, hM3⟩
    have HBy3 := Lib.hid ho3.byts
    have HMd3 := Lib.hid hM3
    clear ho3 hM3 c0 c1 c2 c3 c4
    obtain ⟨n3', hn3'⟩ : ∃ x, x = n2' + m3 := ⟨_, rfl⟩
    have HNN3 : Hid ((L0 ++ L1 ++ L2).length + L3.length = n3') := by show _ = _; rw [hn3', HMm3.out, HE2.out]
    have HE3 : Hid ((L0 ++ L1 ++ L2 ++ L3).length = n3') := by show _ = _; rw [List.length_append]; exact HNN3.out
    have hbd3 : Hid (n3' ≤ 40) := by show _ ≤ _; have := hk3.out; have := hbd2.out; omega
    have HLL3 : Hid ((n3' : Int) ≤ 140737488355328) := by show _ ≤ _; have := hbd3.out; omega
    clear hn3'
    go_wp2_with (at_builtin; go_must (refine wpList_append_b rfl (.tmp 28) (.tmp 31) (by rfl) (.slice r2 n2' u2) (L0 ++ L1 ++ L2) w.heap.size n3' (by rfl) (HWX2.out.own.keptF HMd3.out) _ L3 (by rfl) HBy3.out _ rfl HNN3.out HLL3.out (HWX2.out.mod.trans HMd3.out).size ?_); intro r3 u3 X3 hA3; have HWX3 := Lib.hid (HWX2.out.app HMd3.out hA3); clear hA3; obtain ⟨c0, c1, c2, c3, c4⟩ := HWX3.out.pm.cells)
    go_ret
    refine ⟨_, rfl, ?_, HWX3.out.mod⟩
    have hfin : L0 ++ L1 ++ L2 ++ L3 = putUp p 4 := by rw [HL0.out, HL1.out, HL2.out, HL3.out]; simp [putUp, tok_no p HH.out]
    rw [← hfin]
    exact HWX3.out.own
  · have HH := Lib.hid hh
    rw [hh] at c4
    clear hh
    have hMx : Mod (fun _ => False) w2 w2 := Mod.refl _ _
    have hSx : Mod (fun _ => False) w w2 := HW0.out.mod
    have HNa : Hid (L0.length + ([2, 16] : List UInt8).length = m0 + 2) := by show _ = _; rw [← HMm0.out]; rfl
    have HNb : Hid (((m0 + 2 : Nat) : Int) ≤ 140737488355328) := by show _ ≤ _; have := hk0.out; omega
    have HNc : Hid ((L0 ++ [2, 16]).length + p.t.length = m0 + 18) := by show _ = _; rw [List.length_append, HNa.out, HLEN.out]
    have HNd : Hid (((m0 + 18 : Nat) : Int) ≤ 140737488355328) := by show _ ≤ _; have := hk0.out; omega
    go_wp2_with fail
    go_region_held3 (fun X => Mod (fun _ => False) w X) (first | assumption | (go_split_ands; (repeat' apply And.intro) <;> (first | assumption | (refine cell_ad _ _ _ _ ?_; assumption) | (refine cell_a _ _ _ _ ?_; assumption) | (refine mod_ad _ _ _ ?_; assumption) | (refine mod_a _ _ _ ?_; assumption) | (refine Mod.drew ?_; assumption))))
      (first
        | (refine step_append_b rfl (.tmp 12) (.tmp 13) (by rfl) (.slice ap m0 cp) L0 w.heap.size (m0 + 2) (by rfl) (HW0.out.own.keptF (hMx.alloc _).drew) _ [2, 16] (by rfl) (byts_drew (byts_lit w2 [2, 16] _ 2 rfl rfl (by decide))) _ rfl HNa.out HNb.out (hSx.alloc _).drew.size ?_; intro a1 q1 Y1 hA1; have g1 := HW0.out.app (hMx.alloc _).drew hA1; have g1m := g1.mod)
        | (refine step_append_b rfl (.tmp 14) (.tmp 16) (by rfl) (.slice a1 (m0 + 2) q1) (L0 ++ [2, 16]) w.heap.size (m0 + 18) (by rfl) g1.own _ p.t (by rfl) g1.pm.byts _ rfl HNc.out HNd.out g1m.size ?_; intro a2 q2 Y2 hA2; have g2 := g1.app (Mod.refl _ _) hA2; have g2m := g2.mod)
        | fail)
    have HT2 : Hid (PutS w Y2 w.heap.size p (.slice a2 (m0 + 18) q2) (L0 ++ [2, 16] ++ p.t)) := g2
    clear c0 c1 c2 c3 c4 g1 g1m g2 g2m hA1 hA2 hMx hSx
    obtain ⟨c0, c1, c2, c3, c4⟩ := HT2.out.pm.cells
    have HE : Hid ((L0 ++ [2, 16] ++ p.t).length = m0 + 18) := by show _ = _; rw [List.length_append]; exact HNc.out
    have HBD : Hid (m0 + 18 ≤ 28) := by show _ ≤ _; have := hk0.out; omega
    obtain ⟨n0', hn0'⟩ : ∃ x, x = m0 + 18 := ⟨_, rfl⟩
    rw [← hn0'] at HT2 HE HBD ⊢
    clear hn0' HNa HNb HNc HNd
    go_wp2_with fail
    refine (HONE1.out _).mono ?_
    rintro e v1 ⟨b1, q1, rfl, ho1, hM1⟩
    have HBy1 := Lib.hid ho1.byts
    have HMd1 := Lib.hid hM1
    clear ho1 hM1 c0 c1 c2 c3 c4
    obtain ⟨n1', hn1'⟩ : ∃ x, x = n0' + m1 := ⟨_, rfl⟩
    have HNN1 : Hid ((L0 ++ [2, 16] ++ p.t).length + L1.length = n1') := by show _ = _; rw [hn1', HMm1.out, HE.out]
    have HE1 : Hid ((L0 ++ [2, 16] ++ p.t ++ L1).length = n1') := by show _ = _; rw [List.length_append]; exact HNN1.out
    have hbd1 : Hid (n1' ≤ 38) := by show _ ≤ _; have := hk1.out; have := HBD.out; omega
    have HLL1 : Hid ((n1' : Int) ≤ 140737488355328) := by show _ ≤ _; have := hbd1.out; omega
    clear hn1'
    go_wp2_with (at_builtin; go_must (refine wpList_append_b rfl (.tmp 18) (.tmp 21) (by rfl) (.slice a2 n0' q2) (L0 ++ [2, 16] ++ p.t) w.heap.size n1' (by rfl) (HT2.out.own.keptF HMd1.out) _ L1 (by rfl) HBy1.out _ rfl HNN1.out HLL1.out (HT2.out.mod.trans HMd1.out).size ?_); intro r1 u1 X1 hA1; have HWX1 := Lib.hid (HT2.out.app HMd1.out hA1); clear hA1; obtain ⟨c0, c1, c2, c3, c4⟩ := HWX1.out.pm.cells)
    go_wp2_with fail
    refine (HONE2.out _).mono ?_
    rintro e v2 ⟨b2, q2, rfl, ho2, hM2⟩
    have HBy2 := Lib.hid ho2.byts
    have HMd2 := Lib.hid hM2
    clear ho2 hM2 c0 c1 c2 c3 c4
    obtain ⟨n2', hn2'⟩ : ∃ x, x = n1' + m2 := ⟨_, rfl⟩
    have HNN2 : Hid ((L0 ++ [2, 16] ++ p.t ++ L1).length + L2.length = n2') := by show _ = _; rw [hn2', HMm2.out, HE1.out]
    have HE2 : Hid ((L0 ++ [2, 16] ++ p.t ++ L1 ++ L2).length = n2') := by show _ = _; rw [List.length_append]; exact HNN2.out
    have hbd2 : Hid (n2' ≤ 48) := by show _ ≤ _; have := hk2.out; have := hbd1.out; omega
    have HLL2 : Hid ((n2' : Int) ≤ 140737488355328) := by show _ ≤ _; have := hbd2.out; omega
    clear hn2'
    go_wp2_with (at_builtin; go_must (refine wpList_append_b rfl (.tmp 23) (.tmp 26) (by rfl) (.slice r1 n1' u1) (L0 ++ [2, 16] ++ p.t ++ L1) w.heap.size n2' (by rfl) (HWX1.out.own.keptF HMd2.out) _ L2 (by rfl) HBy2.out _ rfl HNN2.out HLL2.out (HWX1.out.mod.trans HMd2.out).size ?_); intro r2 u2 X2 hA2; have HWX2 := Lib.hid (HWX1.out.app HMd2.out hA2); clear hA2; obtain ⟨c0, c1, c2, c3, c4⟩ := HWX2.out.pm.cells)
    go_wp2_with fail
    refine (HONE3.out _).mono ?_
    rintro e v3 ⟨b3, q3, rfl, ho3, hM3⟩
    have HBy3 := Lib.hid ho3.byts
    have HMd3 := Lib.hid hM3
    clear ho3 hM3 c0 c1 c2 c3 c4
    obtain ⟨n3', hn3'⟩ : ∃ x, x = n2' + m3 := ⟨_, rfl⟩
    have HNN3 : Hid ((L0 ++ [2, 16] ++ p.t ++ L1 ++ L2).length + L3.length = n3') := by show _ = _; rw [hn3', HMm3.out, HE2.out]
    have HE3 : Hid ((L0 ++ [2, 16] ++ p.t ++ L1 ++ L2 ++ L3).length = n3') := by show _ = _; rw [List.length_append]; exact HNN3.out
    have hbd3 : Hid (n3' ≤ 58) := by show _ ≤ _; have := hk3.out; have := hbd2.out; omega
    have HLL3 : Hid ((n3' : Int) ≤ 140737488355328) := by show _ ≤ _; have := hbd3.out; omega
    clear hn3'
    go_wp2_with (at_builtin; go_must (refine wpList_append_b rfl (.tmp 28) (.tmp 31) (by rfl) (.slice r2 n2' u2) (L0 ++ [2, 16] ++ p.t ++ L1 ++ L2) w.heap.size n3' (by rfl) (HWX2.out.own.keptF HMd3.out) _ L3 (by rfl) HBy3.out _ rfl HNN3.out HLL3.out (HWX2.out.mod.trans HMd3.out).size ?_); intro r3 u3 X3 hA3; have HWX3 := Lib.hid (HWX2.out.app HMd3.out hA3); clear hA3; obtain ⟨c0, c1, c2, c3, c4⟩ := HWX3.out.pm.cells)
    go_ret
    refine ⟨_, rfl, ?_, HWX3.out.mod⟩
    have hfin : L0 ++ [2, 16] ++ p.t ++ L1 ++ L2 ++ L3 = putUp p 4 := by rw [HL0.out, HL1.out, HL2.out, HL3.out]; simp [putUp, tok_yes p HH.out]
    rw [← hfin]
    exact HWX3.out.own
end Go.Proofs.YtacgcpofpmkgnaaDoor
