/- The document's Next: a frame of a kind that isn't known. (printed by genfbq.py) -/
import Derived.Test.YtcnpiclpdgkngaaDoorFbP
import Derived.Test.YtcnpiclpdgkngaaDoorFaH
import Derived.Deep.RegionHeld3
namespace Go.Proofs.YtcnpiclpdgkngaaDoor
open Go.RowKit

theorem RxS.still {w0 w w' : World} {tb cap : Nat} {a : Option Addr} {L : List UInt8} {s : RS} (h : RxS w0 w tb a cap L s) (hM : Mod (fun _ => False) w w') : RxS w0 w' tb a cap L s :=
  ⟨hM.blk h.res (fun h => h), hM.blk h.f (fun h => h), hM.refs h.rd (fun h => h) (fun _ _ _ h => h), h.lo, h.ab, h.mod.trans hM⟩
theorem step_store_blk {w : World} {ops : Array Oper} {o : Oper} {a : Act} {K : Act → World → Prop} {Q : Exit → Act → World → Prop} {E : Prop} (hgd : o.guard = none) (ty : TypeId) (x y : Operand) (ho : o.op = .store ty x y)
    (b : Nat) (hx : a.eval x = .pointer (some ⟨b, 0, none⟩)) (C cells : Array Value) (hy : a.eval y = .agg cells) (T : TypeId) (h : Blk w b C T) (hi : (Tryd.prog.info? ty).map (·.size) = some cells.size) (hl : C.size = cells.size) (h1 : ∀ v ∈ cells.toList, v.oneCell' = true)
    (k : ∀ w', Blk w' b cells T → Mod (fun k => k = b) w w' → K (a.put o.dst undef) w') : if Region.wanted o (yielded ops a.tmps) = true then Oper.wp Tryd.prog o a w K Q else E := by
  have hw : Region.wanted o (yielded ops a.tmps) = true := by simp [Region.wanted, hgd]
  rw [if_pos hw]
  obtain ⟨w', C', hr, hB, hs, he, hM⟩ := blk_store (P := Tryd.prog) 0 ty h hi (by omega) h1
  have e : C' = cells := by
    apply Array.toList_inj.1
    rw [he, List.drop_of_length_le (by simp; omega)]
    simp
  subst e
  unfold Oper.wp execOp
  simp only [ho, hx, hy, Instr.storeAt, Instr.sureAddr, Sem.run_bind, Sem.run_pure, Result.andThen_ok, hr]
  exact k w' hB hM
theorem load_zC {w : World} {b : Nat} (h : Blk w b zC 26) : (Instr.loadAt 26 (.pointer (some ⟨b, 0, none⟩))).run Tryd.prog w = .ok (.agg zC) w := by
  have h0 : w.cell? ⟨b, 0, none⟩ = some (.int .i64 0) := h.cellAt 0 rfl
  have h1 : w.cell? ⟨b, 1, none⟩ = some (.int .u64 0) := h.cellAt 1 rfl
  have h2 : w.cell? ⟨b, 2, none⟩ = some (.slice none 0 0) := h.cellAt 2 rfl
  have h3 : w.cell? ⟨b, 3, none⟩ = some (.slice none 0 0) := h.cellAt 3 rfl
  exact run_loadAt_mid w b 0 26 zC.toList _ h.whole Tryd.underlying26 rfl size26z
set_option maxHeartbeats 4000000 in
set_option maxRecDepth 10000 in
theorem rnext_none {w : World} {v : Value} {b : List UInt8} (h : Byts w v b) (hl : (b.length : Int) ≤ 5000) (h1 : (RS.int ⟨b, 0⟩).2.e = 0) (ho : isOld (RS.int ⟨b, 0⟩).1 = false) (h3 : ((RS.int ⟨b, 0⟩).2.int.2.bytes (RS.int ⟨b, 0⟩).2.int.1).2.e = 0) (hk : isKind (RS.int ⟨b, 0⟩).1 = false) : Calls Tryd.prog 20 #[v] w (NextR w (nextL b)) := by
  obtain ⟨R, hR⟩ : ∃ x, x = nextL b := ⟨_, rfl⟩
  rw [← hR]
  have HRR : Hid (R = (HF.zero, b.length - ((RS.int ⟨b, 0⟩).2.int.2.bytes (RS.int ⟨b, 0⟩).2.int.1).2.l.length, 6)) := hR.trans (nextL_none ho h3 hk)
  clear hR
  obtain ⟨a, cap, rfl, _⟩ := byts_val h
  obtain ⟨bl, hbl⟩ : ∃ x, x = b.length := ⟨_, rfl⟩
  rw [← hbl] at h ⊢
  have HS := Lib.hid (rx_made h hbl hl)
  have HBL := Lib.hid hbl
  clear h hl hbl
  have HB3 := Lib.hid h3
  clear h3
  go_enter Tryd.func20, Tryd.ntmps20
  go_wp2_with fail
  refine (refint_any HS.out.rd).mono ?_
  rintro e w2 ⟨rfl, hr, hM⟩
  have HS2 := Lib.hid (HS.out.toR hM hr)
  clear hr hM HS
  have HS := HS2
  clear HS2
  generalize w.heap.size + 2 = tb at *
  generalize RS.int ⟨b, 0⟩ = R1 at *
  obtain ⟨t, s1⟩ := R1
  simp only at *
  have cb := (refs_cells HS.out.rd).1
  have ht : (s1.e == 0) = true := by simpa using h1
  have hz : ¬ (t : Int) = 2 ∧ ¬ (t : Int) = 6 ∧ ¬ (t : Int) = 8 ∧ ¬ (t : Int) = 9 := by
    unfold isOld at ho
    simp only [Bool.or_eq_false_iff, decide_eq_false_iff_not] at ho
    omega
  have t2 : ((t : Int) == 2) = false := by simpa using hz.1
  have t6 : ((t : Int) == 6) = false := by simpa using hz.2.1
  have t8 : ((t : Int) == 8) = false := by simpa using hz.2.2.1
  have t9 : ((t : Int) == 9) = false := by simpa using hz.2.2.2
  clear h1 ho hz
  have hkk : ¬ (t : Int) = 0 ∧ ¬ (t : Int) = 1 ∧ ¬ (t : Int) = 3 ∧ ¬ (t : Int) = 7 ∧ ¬ (t : Int) = 13 ∧ ¬ (t : Int) = 4 := by
    unfold isKind isData isId at hk
    simp only [Bool.or_eq_false_iff, decide_eq_false_iff_not] at hk
    omega
  have k0 : ((t : Int) == 0) = false := by simpa using hkk.1
  have k1 : ((t : Int) == 1) = false := by simpa using hkk.2.1
  have k3 : ((t : Int) == 3) = false := by simpa using hkk.2.2.1
  have k7 : ((t : Int) == 7) = false := by simpa using hkk.2.2.2.1
  have k13 : ((t : Int) == 13) = false := by simpa using hkk.2.2.2.2.1
  have k4 : ((t : Int) == 4) = false := by simpa using hkk.2.2.2.2.2
  clear hk hkk
  generalize (t : Int) = z at *
  go_wp2_with fail
  refine (refint_any HS.out.rd).mono ?_
  rintro e w3 ⟨rfl, hr, hM⟩
  have HS2 := Lib.hid (HS.out.toR hM hr)
  clear hr hM HS cb
  have HS := HS2
  clear HS2
  go_wp2_with fail
  refine (refbytes_any s1.int.1 HS.out.rd).mono ?_
  rintro e w4 ⟨vb, rfl, hob, hr, hM⟩
  have HS2 := Lib.hid (HS.out.toR hM hr)
  have HW := Lib.hid (Nat.le_trans HS.out.mod.size (Nat.le_refl _))
  clear hr hM HS
  have HS := HS2
  clear HS2
  obtain ⟨ba, bc, rfl, _⟩ := byts_val hob.byts
  have HOB := Lib.hid hob
  clear hob
  generalize s1.int = R2 at *
  generalize R2.2.bytes R2.1 = R3 at *
  generalize hnb : R3.1.length = nb at *
  have HNB := Lib.hid hnb
  clear hnb
  have cb := (refs_cells HS.out.rd).1
  have ht2 : (R3.2.e != 0) = false := by simpa using HB3.out
  have cat := (refs_cells HS.out.rd).2 HB3.out
  obtain ⟨nn, hnn⟩ : ∃ nn, nn = b.length - R3.2.l.length := ⟨_, rfl⟩
  rw [← hnn] at cat HRR
  have hM5 : Mod (fun _ => False) w4 (w4.alloc (.cells #[.slice ba nb bc, .int .i64 0, .int .i64 0] 70)) := (Mod.refl _ _).alloc _
  have HS5 := Lib.hid (HS.out.still hM5)
  have cat5 := hM5.cellAt cat (fun h => h)
  clear hnn hM5 cat
  go_wp2_with fail
  generalize (w4.alloc (.cells #[.slice ba nb bc, .int .i64 0, .int .i64 0] 70)) = w5 at *
  have hlo := HS5.out.lo
  have hd : Mod (fun _ => False) w5 w5.drew := (Mod.refl _ _).drew
  have hr5 := hd.blk HS5.out.res (fun h => h)
  have hf5 := hd.blk HS5.out.f (fun h => h)
  have hc5 := hd.cellAt cat5 (fun h => h)
  have HM5 := Lib.hid (HS5.out.mod.trans hd)
  have HW0 : Hid (∀ i, i < w.heap.size → i = w.heap.size → False) := fun i h e => by omega
  clear HS HS5 cat5
  refine wp_region_held_drew (S := fun X => Blk X w.heap.size zC 26 ∧ Blk X (w.heap.size + 1) zC 26 ∧ X.cell? ⟨tb, 1, none⟩ = some (.int .i64 (nn : Int))) (by kernel_rfl) ⟨hr5, hf5, hc5⟩ (fun hS => ?_)
  refine wpAnyH_take (i := 0) (v := .agg zC) rfl (by kernel_rfl) (by kernel_rfl) (by kernel_rfl) (fun _ _ _ h => h) (Or.inl ⟨by rfl, fun X hX => ?_⟩) hS ?_
  · exact exec_load rfl (p := .pointer (some ⟨w.heap.size + 1, 0, none⟩)) (by rfl) (load_zC hX.2.1)
  refine wpAnyH_take (i := 1) (v := .pointer (some ⟨tb, 0, none⟩)) rfl (by kernel_rfl) (by kernel_rfl) (by kernel_rfl) (fun _ _ _ h => h) (Or.inl ⟨by rfl, fun X hX => ?_⟩) hS ?_
  · go_simp
  refine wpAnyH_take (i := 2) (v := .pointer (some ⟨tb, 0, none⟩)) rfl (by kernel_rfl) (by kernel_rfl) (by kernel_rfl) (fun _ _ _ h => h) (Or.inl ⟨by rfl, fun X hX => ?_⟩) hS ?_
  · go_simp
  refine wpAnyH_take (i := 3) (v := .pointer (some ⟨tb, 1, none⟩)) rfl (by kernel_rfl) (by kernel_rfl) (by kernel_rfl) (fun _ _ _ h => h) (Or.inl ⟨by rfl, fun X hX => ?_⟩) hS ?_
  · go_simp
  refine wpAnyH_take (i := 4) (v := .int .i64 (nn : Int)) rfl (by kernel_rfl) (by kernel_rfl) (by kernel_rfl) (fun _ _ _ h => h) (Or.inl ⟨by rfl, fun X hX => ?_⟩) hS ?_
  · have := hX.2.2; go_simp
  refine wpAnyH_ready (rs := [5]) (by kernel_rfl) (by simp) ?_
  refine AllReadyH.cons rfl (fun K hK => ?_) AllReadyH.nil
  with_reducible refine step_store_blk ?_ 26 (.tmp 2) (.tmp 55) ?_ w.heap.size ?_ zC zC ?_ 26 hr5 size26z ?_ zC_one ?_
  · exact rfl
  · exact rfl
  · exact rfl
  · exact rfl
  · exact rfl
  intro Z bZ mZ
  have hSZ : Blk Z w.heap.size zC 26 ∧ Blk Z (w.heap.size + 1) zC 26 ∧ Z.cell? ⟨tb, 1, none⟩ = some (.int .i64 (nn : Int)) := ⟨bZ, mZ.blk hf5 (by omega), mZ.cellAt hc5 (by show ¬ tb = w.heap.size; omega)⟩
  refine hK.out _ _ hSZ (fun hS => ?_)
  clear hK K
  have HMZ := Lib.hid (HM5.out.trans' mZ (fun i hi e => HW0.out i hi e))
  clear mZ hr5 hf5 hc5 hd
  refine wpAnyH_ready (rs := [6]) (by kernel_rfl) (by simp) ?_
  refine AllReadyH.cons rfl (fun K hK => ?_) AllReadyH.nil
  go_simp
  refine hK.out _ _ hSZ (fun hS => ?_)
  clear hK K
  refine wpAnyH_ready (rs := [7]) (by kernel_rfl) (by simp) ?_
  refine AllReadyH.cons rfl (fun K hK => ?_) AllReadyH.nil
  go_simp
  refine hK.out _ _ hSZ (fun hS => ?_)
  clear hK K
  refine wpAnyH_done (by kernel_rfl) ?_ _
  go_simp
  go_wp2_with fail
  refine bodyPost_ret (v := .tuple #[.agg zC, .int .i64 (nn : Int), .int .i64 6]) ?_ rfl ?_
  · exact next_run Tryd.results20 rfl rfl rfl hSZ.1 size26z
  · rw [HRR.out]
    exact next_zero HMZ.out
end Go.Proofs.YtcnpiclpdgkngaaDoor
