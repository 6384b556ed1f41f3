/- The document's Next: settings. (printed by genfbu.py) -/
import Derived.Test.YtcnpiclpdgkngaaDoorFbS
import Derived.Deep.RegionHeld3
namespace Go.Proofs.YtcnpiclpdgkngaaDoor
open Go.RowKit

theorem rk_lenAt {w0 w : World} {tb th nn cap j cp : Nat} {a ap : Option Addr} {L : List UInt8} {f : HF} {vd : Value} {s : RS} (h : RxK w0 w tb th nn a cap L f (.slice ap j cp) vd s) : lenAt2 w (w0.heap.size + 1) = j := by
  have : w.cell? ⟨w0.heap.size + 1, 2, none⟩ = some (.slice ap j cp) := h.cells.2.2.1
  unfold lenAt2
  rw [this]
set_option maxHeartbeats 4000000 in
set_option maxRecDepth 10000 in
theorem rnext_k4 {w : World} {v : Value} {b : List UInt8} (h : Byts w v b) (hl : (b.length : Int) ≤ 5000) (h1 : (RS.int ⟨b, 0⟩).2.e = 0) (h3 : ((RS.int ⟨b, 0⟩).2.int.2.bytes (RS.int ⟨b, 0⟩).2.int.1).2.e = 0) (hk : (RS.int ⟨b, 0⟩).1 = 4) : Calls Tryd.prog 20 #[v] w (NextR w (nextL b)) := by
  obtain ⟨R, hR⟩ : ∃ x, x = nextL b := ⟨_, rfl⟩
  rw [← hR]
  have HRR : Hid (R = nextE (RS.int ⟨b, 0⟩).1 ((RS.int ⟨b, 0⟩).2.int.2.bytes (RS.int ⟨b, 0⟩).2.int.1).1 (b.length - ((RS.int ⟨b, 0⟩).2.int.2.bytes (RS.int ⟨b, 0⟩).2.int.1).2.l.length)) := hR.trans (nextL_kind (by rw [hk]; rfl) h3 (by rw [hk]; rfl))
  clear hR
  obtain ⟨a, cap, rfl, _⟩ := byts_val h
  obtain ⟨bl, hbl⟩ : ∃ x, x = b.length := ⟨_, rfl⟩
  rw [← hbl] at h ⊢
  have HS := Lib.hid (rx_made h hbl hl)
  have HBL := Lib.hid hbl
  clear h hl hbl
  have HB3 := Lib.hid h3
  have HBODY : Hid ((((RS.int ⟨b, 0⟩).2.int.2.bytes (RS.int ⟨b, 0⟩).2.int.1).1.length : Int) ≤ 5000) := by
    show _ ≤ _
    obtain ⟨_, _, _, _, _, _, h5, _⟩ := HS.out.rd
    have i1 := int_len ⟨b, 0⟩
    have i2 := int_len (RS.int ⟨b, 0⟩).2
    have i3 := (bytes_len (RS.int ⟨b, 0⟩).2.int.2 (RS.int ⟨b, 0⟩).2.int.1).2
    simp only at i1
    omega
  clear h3
  go_enter Tryd.func20, Tryd.ntmps20
  go_wp2_with fail
  refine (refint_any HS.out.rd).mono ?_
  rintro e w2 ⟨rfl, hr, hM⟩
  have HS2 := Lib.hid (HS.out.toR hM hr)
  clear hr hM HS
  have HS := HS2
  clear HS2
  generalize w.heap.size + 2 = tb at *
  generalize RS.int ⟨b, 0⟩ = R1 at *
  obtain ⟨t, s1⟩ := R1
  simp only at *
  have cb := (refs_cells HS.out.rd).1
  have ht : (s1.e == 0) = true := by simpa using h1
  generalize hzt : (t : Int) = z at *
  have hz : z = 4 := by omega
  have HT := Lib.hid hk
  clear h1 hk hzt
  subst hz
  go_wp2_with fail
  refine (refint_any HS.out.rd).mono ?_
  rintro e w3 ⟨rfl, hr, hM⟩
  have HS2 := Lib.hid (HS.out.toR hM hr)
  clear hr hM HS cb
  have HS := HS2
  clear HS2
  go_wp2_with fail
  refine (refbytes_any s1.int.1 HS.out.rd).mono ?_
  rintro e w4 ⟨vb, rfl, hob, hr, hM⟩
  have HS2 := Lib.hid (HS.out.toR hM hr)
  have HW : Hid (w.heap.size + 2 ≤ w3.heap.size) := by obtain ⟨_, _, _, hb, _⟩ := HS.out.rd; exact Nat.le_of_lt (Nat.lt_of_le_of_lt HS.out.lo hb.lt)
  clear hr hM HS
  have HS := HS2
  clear HS2
  obtain ⟨ba, bc, rfl, _⟩ := byts_val hob.byts
  have HOB := Lib.hid hob
  clear hob
  generalize s1.int = R2 at *
  generalize R2.2.bytes R2.1 = R3 at *
  generalize hnb : R3.1.length = nb at *
  have HNB := Lib.hid hnb
  clear hnb
  have cb := (refs_cells HS.out.rd).1
  have ht2 : (R3.2.e != 0) = false := by simpa using HB3.out
  have cat := (refs_cells HS.out.rd).2 HB3.out
  obtain ⟨nn, hnn⟩ : ∃ nn, nn = b.length - R3.2.l.length := ⟨_, rfl⟩
  rw [← hnn] at cat HRR
  have HBY : Hid ((R3.1.length : Int) ≤ 5000) := by show _ ≤ _; rw [HNB.out]; exact HBODY.out
  have HK := Lib.hid (rk_made HS.out cat HOB.out HW.out HNB.out.symm HBY.out)
  clear hnn cat HS HB3 HBODY
  have HRK : Hid (readK t R3.1 = (⟨4, 0, (readSetL 17 [] ⟨R3.1, 0⟩).1, []⟩, (readSetL 17 [] ⟨R3.1, 0⟩).2)) := by show _ = _; rw [HT.out]; exact readK_set _
  obtain ⟨RR, hRR⟩ : ∃ x, x = readSetL 17 [] ⟨R3.1, 0⟩ := ⟨_, rfl⟩
  rw [← hRR] at HRK
  have HR0 : Hid (readSetL (17 - 0) [] ⟨R3.1, 0⟩ = RR) := hRR.symm
  clear hRR HOB HW HBY
  generalize (⟨R3.1, 0⟩ : RS) = s0 at *
  go_wp2_with fail
  generalize (w4.alloc (.cells #[.slice ba nb bc, .int .i64 0, .int .i64 0] 70)) = w5 at *
  generalize w4.heap.size = th at *
  have HK0 : Hid (RxK w w5 tb th nn ba bc R3.1 ⟨0, 0, [], []⟩ (.slice none 0 0) (.slice none 0 0) s0) := HK
  clear HK
  go_loopw [79] (fun s79 wr => ∃ v79 : Value, s79 = v79 ∧ ∃ j acc x ap cp, j ≤ 17 ∧ Hid (acc.length = j) ∧ Hid (RxK w wr tb th nn ba bc R3.1 ⟨0, 0, acc, []⟩ (.slice ap j cp) (.slice none 0 0) x) ∧ Hid (readSetL (17 - j) acc x = RR)) (fun _ wr => 17 - lenAt2 wr (w.heap.size + 1))
  case atStart => exact ⟨_, rfl, 0, [], s0, none, 0, by omega, rfl, HK0, HR0⟩
  case round =>
    clear HK0 HR0
    obtain ⟨v79, rfl, j, acc, x, ap, cp, hj, HL, HK, HRR2⟩ := hrel
    have HLA := Lib.hid (rk_lenAt HK.out)
    go_wp2_with fail
    refine (refs_left HK.out.rd).mono ?_
    rintro e w6 ⟨⟨q, hq⟩, he⟩
    have hk6 := Mod.ofHeap (S := fun _ => False) q hq.symm
    have HX := Lib.hid (HK.out.toF hk6)
    clear HK hk6 hq
    have HK := HX
    clear HX
    have c2 : w6.cell? ⟨w.heap.size + 1, 2, none⟩ = some (.slice ap j cp) := HK.out.fr.cellAt 2 rfl
    by_cases hs : x.l = []
    · rw [hs] at he
      subst he
      have HFIN : Hid ((acc, x) = RR) := by
        show _ = _
        rw [← HRR2.out]
        cases 17 - j with
        | zero => rfl
        | succ n => show _ = (if x.l = [] then _ else _); rw [if_pos hs]
      clear hs
      have HRK2 : Hid (readK t R3.1 = (⟨4, 0, acc, []⟩, x)) := by show _ = _; rw [HRK.out, ← HFIN.out]
      clear HRK HFIN HRR2
      have HRK := HRK2
      clear HRK2
      have HZ0 : Hid (x.e ≠ 0 ∨ x.l ≠ [] ∨ rightH ⟨4, 0, acc, []⟩ = false → R = (HF.zero, 0, 3)) := fun h => HRR.out.trans (nextE_bad (by rw [HRK.out]; exact h))
      have HZ9 : Hid (x.e = 0 → x.l = [] → rightH ⟨4, 0, acc, []⟩ = true → R = (⟨4, 0, acc, []⟩, nn, 0)) := fun h1 h2 h => by have := HRR.out; rw [nextE_ok (by rw [HRK.out]; exact h1) (by rw [HRK.out]; exact h2) (by rw [HRK.out]; exact h), HRK.out] at this; exact this
      clear HRR HRK
      by_cases hxe : x.e = 0
      case neg =>
        have hxt : (x.e != 0) = true := by simpa using hxe
        have HRZ := Lib.hid (HZ0.out (.inl hxe))
        clear hxe
        go_wp2_with (first
          | ((with_reducible refine wpList_store_cell ?_ 3 (.tmp 102) (.tmp 101) ?_ (w.heap.size + 1) 0 ?_ (hfC ⟨0, 0, acc, []⟩ (.slice ap j cp) (.slice none 0 0)) (hfC ⟨4, 0, acc, []⟩ (.slice ap j cp) (.slice none 0 0)) (.int .i64 4) ?_ ?_ 26 HK.out.fr ?_ ?_ ?_ ?_ ?_); (· exact rfl); (· exact rfl); (· exact rfl); (· exact rfl); (· exact rfl); (· exact size1_int); (· exact (show 0 < 4 by decide)); (· exact rfl); (· exact rfl); intro wc hBc hMc; have HX : Hid (RxK w wc tb th nn ba bc R3.1 ⟨4, 0, acc, []⟩ (.slice ap j cp) (.slice none 0 0) x) := HK.out.toK 4 hBc hMc; clear HK hBc hMc; have HK := HX; clear HX; have c8 : wc.cell? ⟨th, 2, none⟩ = some (.int .i64 x.e) := (refs_cells HK.out.rd).1)
          | ((with_reducible refine wpList_store_blk ?_ 26 (.tmp 2) (.tmp 118) ?_ w.heap.size ?_ zC zC ?_ 26 HK.out.res size26z ?_ zC_one ?_); (· exact rfl); (· exact rfl); (· exact rfl); (· exact rfl); (· exact rfl); intro wz hBz hMz)
          | fail)
        refine bodyPost_ret (v := .tuple #[.agg zC, .int .i64 ((0 : Nat) : Int), .int .i64 3]) ?_ rfl ?_
        · exact next_run Tryd.results20 rfl rfl rfl hBz size26z
        · rw [HRZ.out]
          exact next_zero (HK.out.mod.trans' hMz (fun i hi e => by omega))
      case pos =>
        have hxt : (x.e != 0) = false := by simpa using hxe
        have HXE := Lib.hid hxe
        clear hxe
        go_wp2_with (first
          | ((with_reducible refine wpList_store_cell ?_ 3 (.tmp 102) (.tmp 101) ?_ (w.heap.size + 1) 0 ?_ (hfC ⟨0, 0, acc, []⟩ (.slice ap j cp) (.slice none 0 0)) (hfC ⟨4, 0, acc, []⟩ (.slice ap j cp) (.slice none 0 0)) (.int .i64 4) ?_ ?_ 26 HK.out.fr ?_ ?_ ?_ ?_ ?_); (· exact rfl); (· exact rfl); (· exact rfl); (· exact rfl); (· exact rfl); (· exact size1_int); (· exact (show 0 < 4 by decide)); (· exact rfl); (· exact rfl); intro wc hBc hMc; have HX : Hid (RxK w wc tb th nn ba bc R3.1 ⟨4, 0, acc, []⟩ (.slice ap j cp) (.slice none 0 0) x) := HK.out.toK 4 hBc hMc; clear HK hBc hMc; have HK := HX; clear HX; have c8 : wc.cell? ⟨th, 2, none⟩ = some (.int .i64 x.e) := (refs_cells HK.out.rd).1)
          | fail)
        refine (refs_left HK.out.rd).mono ?_
        rintro e w9 ⟨⟨q, hq⟩, he⟩
        have hk9 := Mod.ofHeap (S := fun _ => False) q hq.symm
        have HX := Lib.hid (HK.out.toF hk9)
        clear HK hk9 hq c8
        have HK := HX
        clear HX
        clear hxt
        by_cases hxl : x.l = []
        case neg =>
          have HRZ := Lib.hid (HZ0.out (.inr (.inl hxl)))
          have hxd : decide ((0 : Int) < (x.l.length : Int)) = true := by
            apply decide_eq_true
            have : 0 < x.l.length := by cases h : x.l with | nil => exact absurd h hxl | cons => simp
            omega
          have hxd' : (0 : Int) < (x.l.length : Int) := of_decide_eq_true hxd
          generalize (x.l.length : Int) = xl at *
          clear hxl
          subst he
          go_wp2_with (first
            | ((with_reducible refine wpList_store_blk ?_ 26 (.tmp 2) (.tmp 118) ?_ w.heap.size ?_ zC zC ?_ 26 HK.out.res size26z ?_ zC_one ?_); (· exact rfl); (· exact rfl); (· exact rfl); (· exact rfl); (· exact rfl); intro wz hBz hMz)
            | fail)
          refine bodyPost_ret (v := .tuple #[.agg zC, .int .i64 ((0 : Nat) : Int), .int .i64 3]) ?_ rfl ?_
          · exact next_run Tryd.results20 rfl rfl rfl hBz size26z
          · rw [HRZ.out]
            exact next_zero (HK.out.mod.trans' hMz (fun i hi e => by omega))
        case pos =>
          rw [hxl] at he
          subst he
          have HZ1 : Hid (rightH ⟨4, 0, acc, []⟩ = false → R = (HF.zero, 0, 3)) := fun h => HZ0.out (.inr (.inr h))
          have HZ2 : Hid (rightH ⟨4, 0, acc, []⟩ = true → R = (⟨4, 0, acc, []⟩, nn, 0)) := HZ9.out HXE.out hxl
          clear HZ0 HZ9 hxl
          obtain ⟨f0, f1, f2, f3⟩ := HK.out.cells
          go_wp2_with fail
          refine (refright_any HK.out.hfv).mono ?_
          rintro e w10 ⟨rfl, hk10⟩
          have HX := Lib.hid (HK.out.toF hk10)
          clear HK hk10 f0 f1 f2 f3
          have HK := HX
          clear HX
          cases hrg : rightH ⟨4, 0, acc, []⟩
          · have HRZ := Lib.hid (HZ1.out hrg)
            clear hrg
            go_wp2_with (first
              | ((with_reducible refine wpList_store_blk ?_ 26 (.tmp 2) (.tmp 118) ?_ w.heap.size ?_ zC zC ?_ 26 HK.out.res size26z ?_ zC_one ?_); (· exact rfl); (· exact rfl); (· exact rfl); (· exact rfl); (· exact rfl); intro wz hBz hMz)
              | fail)
            refine bodyPost_ret (v := .tuple #[.agg zC, .int .i64 ((0 : Nat) : Int), .int .i64 3]) ?_ rfl ?_
            · exact next_run Tryd.results20 rfl rfl rfl hBz size26z
            · rw [HRZ.out]
              exact next_zero (HK.out.mod.trans' hMz (fun i hi e => by omega))
          · have HRZ := Lib.hid (HZ2.out hrg)
            clear hrg HZ1 HZ2
            go_wp2_with fail
            have hd : Mod (fun _ => False) w10 w10.drew := (Mod.refl _ _).drew
            have HX := Lib.hid (HK.out.toF hd)
            clear HK hd
            have HK := HX
            clear HX
            have hlo := HK.out.lo
            refine wp_region_held_drew (S := fun X => Blk X (w.heap.size + 1) (hfC ⟨4, 0, acc, []⟩ (.slice ap j cp) (.slice none 0 0)) 26 ∧ X.cell? ⟨tb, 1, none⟩ = some (.int .i64 (nn : Int))) (by kernel_rfl) ⟨HK.out.fr, HK.out.at1⟩ (fun hS => ?_)
            refine wpAnyH_take (i := 0) (v := .agg (hfC ⟨4, 0, acc, []⟩ (.slice ap j cp) (.slice none 0 0))) rfl (by kernel_rfl) (by kernel_rfl) (by kernel_rfl) (fun _ _ _ h => h) (Or.inl ⟨by rfl, fun X hX => ?_⟩) hS ?_
            · exact exec_load rfl (p := .pointer (some ⟨w.heap.size + 1, 0, none⟩)) (by rfl) (load_hfC hX.1)
            refine wpAnyH_take (i := 1) (v := .pointer (some ⟨tb, 0, none⟩)) rfl (by kernel_rfl) (by kernel_rfl) (by kernel_rfl) (fun _ _ _ h => h) (Or.inl ⟨by rfl, fun X hX => ?_⟩) hS ?_
            · go_simp
            refine wpAnyH_take (i := 2) (v := .pointer (some ⟨tb, 0, none⟩)) rfl (by kernel_rfl) (by kernel_rfl) (by kernel_rfl) (fun _ _ _ h => h) (Or.inl ⟨by rfl, fun X hX => ?_⟩) hS ?_
            · go_simp
            refine wpAnyH_take (i := 3) (v := .pointer (some ⟨tb, 1, none⟩)) rfl (by kernel_rfl) (by kernel_rfl) (by kernel_rfl) (fun _ _ _ h => h) (Or.inl ⟨by rfl, fun X hX => ?_⟩) hS ?_
            · go_simp
            refine wpAnyH_take (i := 4) (v := .int .i64 (nn : Int)) rfl (by kernel_rfl) (by kernel_rfl) (by kernel_rfl) (fun _ _ _ h => h) (Or.inl ⟨by rfl, fun X hX => ?_⟩) hS ?_
            · have := hX.2; go_simp
            refine wpAnyH_ready (rs := [5]) (by kernel_rfl) (by simp) ?_
            refine AllReadyH.cons rfl (fun K hK => ?_) AllReadyH.nil
            with_reducible refine step_store_blk ?_ 26 (.tmp 2) (.tmp 119) ?_ w.heap.size ?_ zC (hfC ⟨4, 0, acc, []⟩ (.slice ap j cp) (.slice none 0 0)) ?_ 26 HK.out.res (size26f _ _ _) ?_ (hfC_one HK.out.hfv) ?_
            · exact rfl
            · exact rfl
            · exact rfl
            · exact rfl
            · exact rfl
            intro Z bZ mZ
            have hSZ : Blk Z (w.heap.size + 1) (hfC ⟨4, 0, acc, []⟩ (.slice ap j cp) (.slice none 0 0)) 26 ∧ Z.cell? ⟨tb, 1, none⟩ = some (.int .i64 (nn : Int)) := ⟨mZ.blk HK.out.fr (by omega), mZ.cellAt HK.out.at1 (by show ¬ tb = w.heap.size; omega)⟩
            have HZV := Lib.hid (HK.out.res_hfv mZ)
            have HZM := Lib.hid (HK.out.mod.trans' mZ (fun i hi e => by omega))
            refine hK.out _ _ hSZ (fun hS => ?_)
            clear hK K mZ
            refine wpAnyH_ready (rs := [6]) (by kernel_rfl) (by simp) ?_
            refine AllReadyH.cons rfl (fun K hK => ?_) AllReadyH.nil
            go_simp
            refine hK.out _ _ hSZ (fun hS => ?_)
            clear hK K
            refine wpAnyH_ready (rs := [7]) (by kernel_rfl) (by simp) ?_
            refine AllReadyH.cons rfl (fun K hK => ?_) AllReadyH.nil
            go_simp
            refine hK.out _ _ hSZ (fun hS => ?_)
            clear hK K
            refine wpAnyH_done (by kernel_rfl) ?_ _
            go_simp
            go_wp2_with fail
            refine bodyPost_ret (v := .tuple #[.agg (hfC ⟨4, 0, acc, []⟩ (.slice ap j cp) (.slice none 0 0)), .int .i64 (nn : Int), .int .i64 0]) ?_ rfl ?_
            · exact next_run Tryd.results20 rfl rfl rfl bZ (size26f _ _ _)
            · rw [HRZ.out]
              exact ⟨_, _, rfl, HZV.out, HZM.out⟩
    · have hl0 : decide ((0 : Int) < ((x.l.length : Nat) : Int)) = true := by
        apply decide_eq_true
        have : 0 < x.l.length := by cases h : x.l with | nil => exact absurd h hs | cons => simp
        omega
      have hl1 : (0 : Int) < ((x.l.length : Nat) : Int) := of_decide_eq_true hl0
      generalize (x.l.length : Int) = sl at *
      subst he
      have HNE := Lib.hid hs
      clear hs
      by_cases hj16 : (j : Int) < 17
      · have HJ : Hid (j ≤ 100000) := by show _ ≤ _; omega
        go_wp2_with fail
        refine (refint_any HK.out.rd).mono ?_
        rintro e w7 ⟨rfl, hr, hM⟩
        have HX := Lib.hid (HK.out.toR hM hr)
        clear hr hM HK c2
        have HK := HX
        clear HX
        go_wp2_with fail
        refine (refint_any HK.out.rd).mono ?_
        rintro e w8 ⟨rfl, hr, hM⟩
        have HX := Lib.hid (HK.out.toR hM hr)
        clear hr hM HK
        have HK := HX
        clear HX
        have c2 : w8.cell? ⟨w.heap.size + 1, 2, none⟩ = some (.slice ap j cp) := HK.out.fr.cellAt 2 rfl
        generalize hia : x.int.1 = ia at *
        generalize hib : x.int.2.int.1 = ib at *
        have HIA := Lib.hid hia
        have HIB := Lib.hid hib
        clear hia hib
        have HSZ : Hid (w.heap.size + 2 ≤ (w8.alloc (.cells #[.int .u64 (ia : Int), .int .u64 (ib : Int)] 49)).heap.size) := by
          show _ ≤ _
          have h1 := HK.out.lo
          have h2 := HK.out.lt
          obtain ⟨_, h3⟩ := HK.out.thb
          have h4 := h3.lt
          simp
          omega
        have hlj : Hid (((acc ++ [(ia, ib)]).length : Int) ≤ 100000) := by show _ ≤ _; have := HL.out; simp; omega
        go_wp2_with (first
          | ((with_reducible refine wpList_append_set ?_ (.tmp 93) (.tmp 97) ?_ (.slice ap j cp) acc (w.heap.size + 2) ?_ (HK.out.own.alloc _) (.slice (some ⟨w8.heap.size, 0, none⟩) 1 1) (ia, ib) ?_ (set_one w8 (ia, ib)) j HL.out HJ.out HSZ.out ?_); (· exact rfl); (· exact rfl); (· exact rfl); (· exact rfl); intro ap2 cp2 wa ho2 hg2; have HA := Lib.hid (HK.out.app ((Mod.refl _ w8).alloc _) ho2 hlj.out hg2); clear ho2 hg2 c2)
          | ((with_reducible refine wpList_store_cell ?_ 23 (.tmp 99) (.tmp 98) ?_ (w.heap.size + 1) 2 ?_ (hfC ⟨0, 0, acc, []⟩ (.slice ap j cp) (.slice none 0 0)) (hfC ⟨0, 0, acc ++ [(ia, ib)], []⟩ (.slice ap2 (j + 1) cp2) (.slice none 0 0)) (.slice ap2 (j + 1) cp2) ?_ ?_ 26 HA.out.1 ?_ ?_ ?_ ?_ ?_); (· exact rfl); (· exact rfl); (· exact rfl); (· exact rfl); (· exact rfl); (· exact size1_sets); (· exact (show 2 < 4 by decide)); (· exact rfl); (· exact rfl); intro wb hBb hMb; have HK2 := Lib.hid (HA.out.2 wb hBb hMb); clear HA hBb hMb)
          | fail)
        go_roundw
        case rel => exact ⟨j + 1, by omega, acc ++ [(ia, ib)], by show _ = _; simp [HL.out], x.int.2.int.2, ⟨ap2, cp2, HK2⟩, by show _ = _; rw [← HRR2.out, show 17 - j = (17 - (j + 1)) + 1 by omega, readSet_step HNE.out, HIA.out, HIB.out]⟩
        case measure => rw [rk_lenAt HK2.out, HLA.out]; omega
      · have HFIN : Hid ((acc, x) = RR) := by
          show _ = _
          rw [← HRR2.out]
          rw [show 17 - j = 0 by omega]
          rfl
        have HRK2 : Hid (readK t R3.1 = (⟨4, 0, acc, []⟩, x)) := by show _ = _; rw [HRK.out, ← HFIN.out]
        clear HRK HFIN HRR2
        have HRK := HRK2
        clear HRK2
        have HZ0 : Hid (x.e ≠ 0 ∨ x.l ≠ [] ∨ rightH ⟨4, 0, acc, []⟩ = false → R = (HF.zero, 0, 3)) := fun h => HRR.out.trans (nextE_bad (by rw [HRK.out]; exact h))
        have HZ9 : Hid (x.e = 0 → x.l = [] → rightH ⟨4, 0, acc, []⟩ = true → R = (⟨4, 0, acc, []⟩, nn, 0)) := fun h1 h2 h => by have := HRR.out; rw [nextE_ok (by rw [HRK.out]; exact h1) (by rw [HRK.out]; exact h2) (by rw [HRK.out]; exact h), HRK.out] at this; exact this
        clear HRR HRK
        by_cases hxe : x.e = 0
        case neg =>
          have hxt : (x.e != 0) = true := by simpa using hxe
          have HRZ := Lib.hid (HZ0.out (.inl hxe))
          clear hxe
          go_wp2_with (first
            | ((with_reducible refine wpList_store_cell ?_ 3 (.tmp 102) (.tmp 101) ?_ (w.heap.size + 1) 0 ?_ (hfC ⟨0, 0, acc, []⟩ (.slice ap j cp) (.slice none 0 0)) (hfC ⟨4, 0, acc, []⟩ (.slice ap j cp) (.slice none 0 0)) (.int .i64 4) ?_ ?_ 26 HK.out.fr ?_ ?_ ?_ ?_ ?_); (· exact rfl); (· exact rfl); (· exact rfl); (· exact rfl); (· exact rfl); (· exact size1_int); (· exact (show 0 < 4 by decide)); (· exact rfl); (· exact rfl); intro wc hBc hMc; have HX : Hid (RxK w wc tb th nn ba bc R3.1 ⟨4, 0, acc, []⟩ (.slice ap j cp) (.slice none 0 0) x) := HK.out.toK 4 hBc hMc; clear HK hBc hMc; have HK := HX; clear HX; have c8 : wc.cell? ⟨th, 2, none⟩ = some (.int .i64 x.e) := (refs_cells HK.out.rd).1)
            | ((with_reducible refine wpList_store_blk ?_ 26 (.tmp 2) (.tmp 118) ?_ w.heap.size ?_ zC zC ?_ 26 HK.out.res size26z ?_ zC_one ?_); (· exact rfl); (· exact rfl); (· exact rfl); (· exact rfl); (· exact rfl); intro wz hBz hMz)
            | fail)
          refine bodyPost_ret (v := .tuple #[.agg zC, .int .i64 ((0 : Nat) : Int), .int .i64 3]) ?_ rfl ?_
          · exact next_run Tryd.results20 rfl rfl rfl hBz size26z
          · rw [HRZ.out]
            exact next_zero (HK.out.mod.trans' hMz (fun i hi e => by omega))
        case pos =>
          have hxt : (x.e != 0) = false := by simpa using hxe
          have HXE := Lib.hid hxe
          clear hxe
          go_wp2_with (first
            | ((with_reducible refine wpList_store_cell ?_ 3 (.tmp 102) (.tmp 101) ?_ (w.heap.size + 1) 0 ?_ (hfC ⟨0, 0, acc, []⟩ (.slice ap j cp) (.slice none 0 0)) (hfC ⟨4, 0, acc, []⟩ (.slice ap j cp) (.slice none 0 0)) (.int .i64 4) ?_ ?_ 26 HK.out.fr ?_ ?_ ?_ ?_ ?_); (· exact rfl); (· exact rfl); (· exact rfl); (· exact rfl); (· exact rfl); (· exact size1_int); (· exact (show 0 < 4 by decide)); (· exact rfl); (· exact rfl); intro wc hBc hMc; have HX : Hid (RxK w wc tb th nn ba bc R3.1 ⟨4, 0, acc, []⟩ (.slice ap j cp) (.slice none 0 0) x) := HK.out.toK 4 hBc hMc; clear HK hBc hMc; have HK := HX; clear HX; have c8 : wc.cell? ⟨th, 2, none⟩ = some (.int .i64 x.e) := (refs_cells HK.out.rd).1)
            | fail)
          refine (refs_left HK.out.rd).mono ?_
          rintro e w9 ⟨⟨q, hq⟩, he⟩
          have hk9 := Mod.ofHeap (S := fun _ => False) q hq.symm
          have HX := Lib.hid (HK.out.toF hk9)
          clear HK hk9 hq c8
          have HK := HX
          clear HX
          clear hxt
          by_cases hxl : x.l = []
          case neg =>
            have HRZ := Lib.hid (HZ0.out (.inr (.inl hxl)))
            have hxd : decide ((0 : Int) < (x.l.length : Int)) = true := by
              apply decide_eq_true
              have : 0 < x.l.length := by cases h : x.l with | nil => exact absurd h hxl | cons => simp
              omega
            have hxd' : (0 : Int) < (x.l.length : Int) := of_decide_eq_true hxd
            generalize (x.l.length : Int) = xl at *
            clear hxl
            subst he
            go_wp2_with (first
              | ((with_reducible refine wpList_store_blk ?_ 26 (.tmp 2) (.tmp 118) ?_ w.heap.size ?_ zC zC ?_ 26 HK.out.res size26z ?_ zC_one ?_); (· exact rfl); (· exact rfl); (· exact rfl); (· exact rfl); (· exact rfl); intro wz hBz hMz)
              | fail)
            refine bodyPost_ret (v := .tuple #[.agg zC, .int .i64 ((0 : Nat) : Int), .int .i64 3]) ?_ rfl ?_
            · exact next_run Tryd.results20 rfl rfl rfl hBz size26z
            · rw [HRZ.out]
              exact next_zero (HK.out.mod.trans' hMz (fun i hi e => by omega))
          case pos =>
            rw [hxl] at he
            subst he
            have HZ1 : Hid (rightH ⟨4, 0, acc, []⟩ = false → R = (HF.zero, 0, 3)) := fun h => HZ0.out (.inr (.inr h))
            have HZ2 : Hid (rightH ⟨4, 0, acc, []⟩ = true → R = (⟨4, 0, acc, []⟩, nn, 0)) := HZ9.out HXE.out hxl
            clear HZ0 HZ9 hxl
            obtain ⟨f0, f1, f2, f3⟩ := HK.out.cells
            go_wp2_with fail
            refine (refright_any HK.out.hfv).mono ?_
            rintro e w10 ⟨rfl, hk10⟩
            have HX := Lib.hid (HK.out.toF hk10)
            clear HK hk10 f0 f1 f2 f3
            have HK := HX
            clear HX
            cases hrg : rightH ⟨4, 0, acc, []⟩
            · have HRZ := Lib.hid (HZ1.out hrg)
              clear hrg
              go_wp2_with (first
                | ((with_reducible refine wpList_store_blk ?_ 26 (.tmp 2) (.tmp 118) ?_ w.heap.size ?_ zC zC ?_ 26 HK.out.res size26z ?_ zC_one ?_); (· exact rfl); (· exact rfl); (· exact rfl); (· exact rfl); (· exact rfl); intro wz hBz hMz)
                | fail)
              refine bodyPost_ret (v := .tuple #[.agg zC, .int .i64 ((0 : Nat) : Int), .int .i64 3]) ?_ rfl ?_
              · exact next_run Tryd.results20 rfl rfl rfl hBz size26z
              · rw [HRZ.out]
                exact next_zero (HK.out.mod.trans' hMz (fun i hi e => by omega))
            · have HRZ := Lib.hid (HZ2.out hrg)
              clear hrg HZ1 HZ2
              go_wp2_with fail
              have hd : Mod (fun _ => False) w10 w10.drew := (Mod.refl _ _).drew
              have HX := Lib.hid (HK.out.toF hd)
              clear HK hd
              have HK := HX
              clear HX
              have hlo := HK.out.lo
              refine wp_region_held_drew (S := fun X => Blk X (w.heap.size + 1) (hfC ⟨4, 0, acc, []⟩ (.slice ap j cp) (.slice none 0 0)) 26 ∧ X.cell? ⟨tb, 1, none⟩ = some (.int .i64 (nn : Int))) (by kernel_rfl) ⟨HK.out.fr, HK.out.at1⟩ (fun hS => ?_)
              refine wpAnyH_take (i := 0) (v := .agg (hfC ⟨4, 0, acc, []⟩ (.slice ap j cp) (.slice none 0 0))) rfl (by kernel_rfl) (by kernel_rfl) (by kernel_rfl) (fun _ _ _ h => h) (Or.inl ⟨by rfl, fun X hX => ?_⟩) hS ?_
              · exact exec_load rfl (p := .pointer (some ⟨w.heap.size + 1, 0, none⟩)) (by rfl) (load_hfC hX.1)
              refine wpAnyH_take (i := 1) (v := .pointer (some ⟨tb, 0, none⟩)) rfl (by kernel_rfl) (by kernel_rfl) (by kernel_rfl) (fun _ _ _ h => h) (Or.inl ⟨by rfl, fun X hX => ?_⟩) hS ?_
              · go_simp
              refine wpAnyH_take (i := 2) (v := .pointer (some ⟨tb, 0, none⟩)) rfl (by kernel_rfl) (by kernel_rfl) (by kernel_rfl) (fun _ _ _ h => h) (Or.inl ⟨by rfl, fun X hX => ?_⟩) hS ?_
              · go_simp
              refine wpAnyH_take (i := 3) (v := .pointer (some ⟨tb, 1, none⟩)) rfl (by kernel_rfl) (by kernel_rfl) (by kernel_rfl) (fun _ _ _ h => h) (Or.inl ⟨by rfl, fun X hX => ?_⟩) hS ?_
              · go_simp
              refine wpAnyH_take (i := 4) (v := .int .i64 (nn : Int)) rfl (by kernel_rfl) (by kernel_rfl) (by kernel_rfl) (fun _ _ _ h => h) (Or.inl ⟨by rfl, fun X hX => ?_⟩) hS ?_
              · have := hX.2; go_simp
              refine wpAnyH_ready (rs := [5]) (by kernel_rfl) (by simp) ?_
              refine AllReadyH.cons rfl (fun K hK => ?_) AllReadyH.nil
              with_reducible refine step_store_blk ?_ 26 (.tmp 2) (.tmp 119) ?_ w.heap.size ?_ zC (hfC ⟨4, 0, acc, []⟩ (.slice ap j cp) (.slice none 0 0)) ?_ 26 HK.out.res (size26f _ _ _) ?_ (hfC_one HK.out.hfv) ?_
              · exact rfl
              · exact rfl
              · exact rfl
              · exact rfl
              · exact rfl
              intro Z bZ mZ
              have hSZ : Blk Z (w.heap.size + 1) (hfC ⟨4, 0, acc, []⟩ (.slice ap j cp) (.slice none 0 0)) 26 ∧ Z.cell? ⟨tb, 1, none⟩ = some (.int .i64 (nn : Int)) := ⟨mZ.blk HK.out.fr (by omega), mZ.cellAt HK.out.at1 (by show ¬ tb = w.heap.size; omega)⟩
              have HZV := Lib.hid (HK.out.res_hfv mZ)
              have HZM := Lib.hid (HK.out.mod.trans' mZ (fun i hi e => by omega))
              refine hK.out _ _ hSZ (fun hS => ?_)
              clear hK K mZ
              refine wpAnyH_ready (rs := [6]) (by kernel_rfl) (by simp) ?_
              refine AllReadyH.cons rfl (fun K hK => ?_) AllReadyH.nil
              go_simp
              refine hK.out _ _ hSZ (fun hS => ?_)
              clear hK K
              refine wpAnyH_ready (rs := [7]) (by kernel_rfl) (by simp) ?_
              refine AllReadyH.cons rfl (fun K hK => ?_) AllReadyH.nil
              go_simp
              refine hK.out _ _ hSZ (fun hS => ?_)
              clear hK K
              refine wpAnyH_done (by kernel_rfl) ?_ _
              go_simp
              go_wp2_with fail
              refine bodyPost_ret (v := .tuple #[.agg (hfC ⟨4, 0, acc, []⟩ (.slice ap j cp) (.slice none 0 0)), .int .i64 (nn : Int), .int .i64 0]) ?_ rfl ?_
              · exact next_run Tryd.results20 rfl rfl rfl bZ (size26f _ _ _)
              · rw [HRZ.out]
                exact ⟨_, _, rfl, HZV.out, HZM.out⟩
end Go.Proofs.YtcnpiclpdgkngaaDoor
