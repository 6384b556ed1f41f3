/- A NewCid's bytes. (printed by gengal.py) -/
import Derived.Test.YteegonadodmeeaaDoorGaK
namespace Go.Proofs.YteegonadodmeeaaDoor
open Go.RowKit

theorem parts4 {w : World} {b : Nat} {v1 v2 v3 v4 : Value} {l1 l2 l3 l4 : List UInt8} {T : TypeId} (hb : Blk w b #[v1, v2, v3, v4] T) (h1 : Byts w v1 l1) (h2 : Byts w v2 l2) (h3 : Byts w v3 l3) (h4 : Byts w v4 l4) : Parts w b 0 [l1, l2, l3, l4] := by
  intro i l hl
  obtain ⟨a1, c1, rfl, _⟩ := byts_val h1
  obtain ⟨a2, c2, rfl, _⟩ := byts_val h2
  obtain ⟨a3, c3, rfl, _⟩ := byts_val h3
  obtain ⟨a4, c4, rfl, _⟩ := byts_val h4
  rw [Nat.zero_add]
  match i, hl with
  | 0, hl => simp at hl; subst hl; exact ⟨_, _, hb.cellAt 0 rfl, h1⟩
  | 1, hl => simp at hl; subst hl; exact ⟨_, _, hb.cellAt 1 rfl, h2⟩
  | 2, hl => simp at hl; subst hl; exact ⟨_, _, hb.cellAt 2 rfl, h3⟩
  | 3, hl => simp at hl; subst hl; exact ⟨_, _, hb.cellAt 3 rfl, h4⟩
  | (_ + 4), hl => simp at hl
/-- Four slices of bytes are joined. -/
theorem concat4 {w : World} {b : Nat} {v1 v2 v3 v4 : Value} {l1 l2 l3 l4 : List UInt8} {T : TypeId} (hb : Blk w b #[v1, v2, v3, v4] T) (h1 : Byts w v1 l1) (h2 : Byts w v2 l2) (h3 : Byts w v3 l3) (h4 : Byts w v4 l4) {L : List UInt8} (hL : l1 ++ l2 ++ l3 ++ l4 = L) (hl : (L.length : Int) ≤ 100000) (hp : 0 < L.length) :
    Calls Tryd.prog 80 #[.slice (some ⟨b, 0, none⟩) 4 4] w fun e w' => ∃ v', e = .returned v' ∧ OwnB w' w.heap.size v' L ∧ Mod (fun _ => False) w w' := by
  have e : [l1, l2, l3, l4].flatten = L := by rw [← hL]; simp
  rw [← e] at hl hp ⊢
  exact concat_any (n := 4) (c := 4) (ls := [l1, l2, l3, l4]) rfl (Nat.le_refl _) (parts4 hb h1 h2 h3 h4) hl hp (by decide)
theorem one_cell {n : Nat} (h : n ≤ 20) : #[Value.int .u8 (n : Int)] = ([UInt8.ofNat n].map bv).toArray := by
  have e : (UInt8.ofNat n).toNat = n := UInt8.toNat_ofNat_of_lt' (by show _ < 256; omega)
  simp [bv, e]
set_option maxHeartbeats 8000000 in
set_option maxRecDepth 10000 in
theorem put34 {w : World} {f : Fr} {vd vr : Value} (hT : Tabs w) (hv : FrV w f vd vr) (hn : f.d.length ≤ 20) : Puts 79 w f vd vr (putL f.id ++ putL f.a ++ [UInt8.ofNat f.d.length] ++ f.d ++ f.t) := by
  unfold Puts
  rw [show putL f.id ++ putL f.a ++ [UInt8.ofNat f.d.length] ++ f.d ++ f.t = intsL [f.id, f.a] ++ [UInt8.ofNat f.d.length] ++ f.d ++ f.t by simp [intsL]]
  have HT := Lib.hid hT
  have HV := Lib.hid hv
  have HS0 : Hid (FrB (w.alloc (.cells (frC f vd vr) 27)).drew w.heap.size f vd vr ∧ Mod (fun _ => False) w (w.alloc (.cells (frC f vd vr) 27)).drew) := ⟨(FrB.new w f vd vr hv.t).kept (Mod.refl _ _).drew, ((Mod.refl _ w).alloc _).drew⟩
  have HLB : Hid (((intsL [f.id, f.a] ++ [UInt8.ofNat f.d.length] ++ f.d ++ f.t).length : Int) ≤ 100000) := by
    show _ ≤ _
    have h1 := intsL_len [f.id, f.a]
    have h2 := hv.t
    simp only [List.length_append, List.length_cons, List.length_nil] at h1 ⊢
    omega
  have HPOS : Hid (0 < (intsL [f.id, f.a] ++ [UInt8.ofNat f.d.length] ++ f.d ++ f.t).length) := by show 0 < _; simp only [List.length_append, List.length_cons, List.length_nil]; omega
  have HC1 := Lib.hid (one_cell hn)
  have hw8 : IntKind.u8.wrap (f.d.length : Int) = f.d.length := IntWalk.u8_in _ (by omega)
  obtain ⟨da, dc, rfl, _⟩ := byts_val hv.d
  clear hT hv hn
  obtain ⟨vr, rfl⟩ : ∃ v, v = vr := ⟨_, rfl⟩
  generalize hnd : f.d.length = nd at *
  have HND := Lib.hid hnd
  clear hnd
  unfold frV
  go_enter Tryd.func79, Tryd.ntmps79
  go_wp2_with fail
  refine wp_region_held_drew (S := fun X => FrB X w.heap.size f (.slice da nd dc) vr ∧ Mod (fun _ => False) w X) (by kernel_rfl) HS0.out (fun hS => ?_)
  refine takeH (i := 0) (v := .pointer (some ⟨w.heap.size, 1, none⟩)) (some 3) rfl rfl (by kernel_rfl) (by kernel_rfl) (by kernel_rfl) (fun _ _ _ h => h) (Or.inl ⟨by rfl, fun X hX => ?_⟩) hS ?_
  · go_simp
  (try go_frame)
  refine takeH (i := 1) (v := .int .u64 (f.id : Int)) (some 4) rfl rfl (by kernel_rfl) (by kernel_rfl) (by kernel_rfl) (fun _ _ _ h => h) (Or.inl ⟨by rfl, fun X hX => ?_⟩) hS ?_
  · have := hX.1.cells.2.1; go_simp
  (try go_frame)
  refine takeH (i := 2) (v := .pointer (some ⟨w.heap.size, 2, none⟩)) (some 5) rfl rfl (by kernel_rfl) (by kernel_rfl) (by kernel_rfl) (fun _ _ _ h => h) (Or.inl ⟨by rfl, fun X hX => ?_⟩) hS ?_
  · go_simp
  (try go_frame)
  refine takeH (i := 3) (v := .int .u64 (f.a : Int)) (some 6) rfl rfl (by kernel_rfl) (by kernel_rfl) (by kernel_rfl) (fun _ _ _ h => h) (Or.inl ⟨by rfl, fun X hX => ?_⟩) hS ?_
  · have := hX.1.cells.2.2.1; go_simp
  (try go_frame)
  refine takeH (i := 6) (v := .pointer (some ⟨w.heap.size, 6, none⟩)) (some 9) rfl rfl (by kernel_rfl) (by kernel_rfl) (by kernel_rfl) (fun _ _ _ h => h) (Or.inl ⟨by rfl, fun X hX => ?_⟩) hS ?_
  · go_simp
  (try go_frame)
  refine takeH (i := 7) (v := .slice da nd dc) (some 10) rfl rfl (by kernel_rfl) (by kernel_rfl) (by kernel_rfl) (fun _ _ _ h => h) (Or.inl ⟨by rfl, fun X hX => ?_⟩) hS ?_
  · have := hX.1.cells.2.2.2.2.2.2.1; go_simp
  (try go_frame)
  refine takeH (i := 8) (v := .int .i64 (nd : Int)) (some 11) rfl rfl (by kernel_rfl) (by kernel_rfl) (by kernel_rfl) (fun _ _ _ h => h) (Or.inl ⟨by rfl, fun X hX => ?_⟩) hS ?_
  · go_simp
  (try go_frame)
  refine takeH (i := 9) (v := .int .u8 (nd : Int)) (some 12) rfl rfl (by kernel_rfl) (by kernel_rfl) (by kernel_rfl) (fun _ _ _ h => h) (Or.inl ⟨by rfl, fun X hX => ?_⟩) hS ?_
  · go_simp
  (try go_frame)
  refine takeH (i := 11) (v := .pointer (some ⟨w.heap.size, 6, none⟩)) (some 14) rfl rfl (by kernel_rfl) (by kernel_rfl) (by kernel_rfl) (fun _ _ _ h => h) (Or.inl ⟨by rfl, fun X hX => ?_⟩) hS ?_
  · go_simp
  (try go_frame)
  refine takeH (i := 12) (v := .slice da nd dc) (some 15) rfl rfl (by kernel_rfl) (by kernel_rfl) (by kernel_rfl) (fun _ _ _ h => h) (Or.inl ⟨by rfl, fun X hX => ?_⟩) hS ?_
  · have := hX.1.cells.2.2.2.2.2.2.1; go_simp
  (try go_frame)
  refine takeH (i := 13) (v := .pointer (some ⟨w.heap.size, 8, none⟩)) (some 16) rfl rfl (by kernel_rfl) (by kernel_rfl) (by kernel_rfl) (fun _ _ _ h => h) (Or.inl ⟨by rfl, fun X hX => ?_⟩) hS ?_
  · go_simp
  (try go_frame)
  refine takeH (i := 14) (v := .slice (some ⟨w.heap.size, 8, none⟩) 16 16) (some 17) rfl rfl (by kernel_rfl) (by kernel_rfl) (by kernel_rfl) (fun _ _ _ h => h) (Or.inl ⟨by rfl, fun X hX => ?_⟩) hS ?_
  · go_simp
  (try go_frame)
  generalize (w.alloc (.cells (frC f (.slice da nd dc) vr) 27)).drew = W0 at *
  refine wpAnyH_ready (rs := [4, 10]) (by kernel_rfl) (by simp) ?_
  refine AllReadyH.cons rfl (fun K hK => ?_) (AllReadyH.cons rfl (fun K hK => ?_) AllReadyH.nil)
  · skip
    go_simp
    have hk4 := (Mod.refl (fun _ => False) W0).alloc (.cells #[.int .u64 (f.id : Int), .int .u64 (f.a : Int)] 22)
    have hI := ints_lit W0 [f.id, f.a] #[.int .u64 (f.id : Int), .int .u64 (f.a : Int)] 2 22 rfl rfl (by decide)
    refine hK.out _ _ ⟨hS.1.kept hk4, hS.2.trans hk4⟩ (fun hS => ?_)
    clear hK K
    generalize hg4 : W0.alloc (.cells #[.int .u64 (f.id : Int), .int .u64 (f.a : Int)] 22) = W4 at *
    refine wpAnyH_ready (rs := [5, 10]) (by kernel_rfl) (by simp) ?_
    refine AllReadyH.cons rfl (fun K hK => ?_) (AllReadyH.cons rfl (fun K hK => ?_) AllReadyH.nil)
    · skip
      go_simp
      refine (ints_any (hS.2.tabs HT.out (fun h => h)) hI (by simp)).mono ?_
      rintro e W5 ⟨v1, rfl, ho1, hk5⟩
      have hb1 := ho1.byts
      obtain ⟨a1, c1, rfl, _⟩ := byts_val hb1
      refine hK.out _ _ ⟨hS.1.kept hk5, hS.2.trans hk5⟩ (fun hS => ?_)
      clear hK K
      refine wpAnyH_ready (rs := [10]) (by kernel_rfl) (by simp) ?_
      refine AllReadyH.cons rfl (fun K hK => ?_) AllReadyH.nil
      go_simp
      have hk10 := (Mod.refl (fun _ => False) W5).alloc (.cells #[.int .u8 (nd : Int)] 5)
      have hB := byts_lit W5 [UInt8.ofNat nd] #[.int .u8 (nd : Int)] 1 HC1.out rfl (by decide)
      refine hK.out _ _ ⟨hS.1.kept hk10, hS.2.trans hk10⟩ (fun hS => ?_)
      clear hK K
      generalize hg10 : W5.alloc (.cells #[.int .u8 (nd : Int)] 5) = W10 at *
      refine wpAnyH_ready (rs := [15]) (by kernel_rfl) (by simp) ?_
      refine AllReadyH.cons rfl (fun K hK => ?_) AllReadyH.nil
      go_simp
      have hk15 := (Mod.refl (fun _ => False) W10).alloc (.cells #[.slice a1 (intsL [f.id, f.a]).length c1, .slice (some ⟨W5.heap.size, 0, none⟩) 1 1, .slice da nd dc, .slice (some ⟨w.heap.size, 8, none⟩) 16 16] 23)
      have hP := Blk.new W10 #[.slice a1 (intsL [f.id, f.a]).length c1, .slice (some ⟨W5.heap.size, 0, none⟩) 1 1, .slice da nd dc, .slice (some ⟨w.heap.size, 8, none⟩) 16 16] 23
      have hbd := byts_kept HV.out.d hS.2
      have hbt := hS.1.byts
      have hC := concat4 hP (byts_kept (byts_kept hb1 hk10) hk15) (byts_kept (hB) hk15) (byts_kept hbd hk15) (byts_kept hbt hk15) rfl HLB.out HPOS.out
      refine hK.out _ _ ⟨hS.1.kept hk15, hS.2.trans hk15⟩ (fun hS => ?_)
      clear hK K
      refine wpAnyH_ready (rs := [16]) (by kernel_rfl) (by simp) ?_
      refine AllReadyH.cons rfl (fun K hK => ?_) AllReadyH.nil
      go_simp
      refine hC.mono ?_
      rintro e X9 ⟨v9, rfl, ho9, hk9⟩
      refine hK.out _ _ ⟨hS.1.kept hk9, hS.2.trans hk9⟩ (fun hS => ?_)
      clear hK K
      refine wpAnyH_ready (rs := [17]) (by kernel_rfl) (by simp) ?_
      refine AllReadyH.cons rfl (fun K hK => ?_) AllReadyH.nil
      go_simp
      refine hK.out _ _ hS (fun hS => ?_)
      clear hK K
      refine wpAnyH_done (by kernel_rfl) ?_ _
      have HB := Lib.hid ho9.byts
      have HM9 := Lib.hid hS.2
      obtain ⟨a9, c9, rfl, _⟩ := byts_val ho9.byts
      generalize (intsL [f.id, f.a] ++ [UInt8.ofNat nd] ++ f.d ++ f.t).length = n at *
      clear hS ho9 hk9 hC hP hk15 hbd hbt
      go_wp2_with fail
      go_ret
      exact ⟨_, rfl, HB.out, HM9.out⟩
    · skip
      go_simp
      have hk10 := (Mod.refl (fun _ => False) W4).alloc (.cells #[.int .u8 (nd : Int)] 5)
      have hB := byts_lit W4 [UInt8.ofNat nd] #[.int .u8 (nd : Int)] 1 HC1.out rfl (by decide)
      refine hK.out _ _ ⟨hS.1.kept hk10, hS.2.trans hk10⟩ (fun hS => ?_)
      clear hK K
      generalize hg10 : W4.alloc (.cells #[.int .u8 (nd : Int)] 5) = W10 at *
      refine wpAnyH_ready (rs := [5]) (by kernel_rfl) (by simp) ?_
      refine AllReadyH.cons rfl (fun K hK => ?_) AllReadyH.nil
      go_simp
      refine (ints_any (hS.2.tabs HT.out (fun h => h)) (Sl.kept hI hk10 (fun _ _ h => h)) (by simp)).mono ?_
      rintro e W5 ⟨v1, rfl, ho1, hk5⟩
      have hb1 := ho1.byts
      obtain ⟨a1, c1, rfl, _⟩ := byts_val hb1
      refine hK.out _ _ ⟨hS.1.kept hk5, hS.2.trans hk5⟩ (fun hS => ?_)
      clear hK K
      refine wpAnyH_ready (rs := [15]) (by kernel_rfl) (by simp) ?_
      refine AllReadyH.cons rfl (fun K hK => ?_) AllReadyH.nil
      go_simp
      have hk15 := (Mod.refl (fun _ => False) W5).alloc (.cells #[.slice a1 (intsL [f.id, f.a]).length c1, .slice (some ⟨W4.heap.size, 0, none⟩) 1 1, .slice da nd dc, .slice (some ⟨w.heap.size, 8, none⟩) 16 16] 23)
      have hP := Blk.new W5 #[.slice a1 (intsL [f.id, f.a]).length c1, .slice (some ⟨W4.heap.size, 0, none⟩) 1 1, .slice da nd dc, .slice (some ⟨w.heap.size, 8, none⟩) 16 16] 23
      have hbd := byts_kept HV.out.d hS.2
      have hbt := hS.1.byts
      have hC := concat4 hP (byts_kept (hb1) hk15) (byts_kept (byts_kept hB hk5) hk15) (byts_kept hbd hk15) (byts_kept hbt hk15) rfl HLB.out HPOS.out
      refine hK.out _ _ ⟨hS.1.kept hk15, hS.2.trans hk15⟩ (fun hS => ?_)
      clear hK K
      refine wpAnyH_ready (rs := [16]) (by kernel_rfl) (by simp) ?_
      refine AllReadyH.cons rfl (fun K hK => ?_) AllReadyH.nil
      go_simp
      refine hC.mono ?_
      rintro e X9 ⟨v9, rfl, ho9, hk9⟩
      refine hK.out _ _ ⟨hS.1.kept hk9, hS.2.trans hk9⟩ (fun hS => ?_)
      clear hK K
      refine wpAnyH_ready (rs := [17]) (by kernel_rfl) (by simp) ?_
      refine AllReadyH.cons rfl (fun K hK => ?_) AllReadyH.nil
      go_simp
      refine hK.out _ _ hS (fun hS => ?_)
      clear hK K
      refine wpAnyH_done (by kernel_rfl) ?_ _
      have HB := Lib.hid ho9.byts
      have HM9 := Lib.hid hS.2
      obtain ⟨a9, c9, rfl, _⟩ := byts_val ho9.byts
      generalize (intsL [f.id, f.a] ++ [UInt8.ofNat nd] ++ f.d ++ f.t).length = n at *
      clear hS ho9 hk9 hC hP hk15 hbd hbt
      go_wp2_with fail
      go_ret
      exact ⟨_, rfl, HB.out, HM9.out⟩
  · skip
    go_simp
    have hk10 := (Mod.refl (fun _ => False) W0).alloc (.cells #[.int .u8 (nd : Int)] 5)
    have hB := byts_lit W0 [UInt8.ofNat nd] #[.int .u8 (nd : Int)] 1 HC1.out rfl (by decide)
    refine hK.out _ _ ⟨hS.1.kept hk10, hS.2.trans hk10⟩ (fun hS => ?_)
    clear hK K
    generalize hg10 : W0.alloc (.cells #[.int .u8 (nd : Int)] 5) = W10 at *
    refine wpAnyH_ready (rs := [4]) (by kernel_rfl) (by simp) ?_
    refine AllReadyH.cons rfl (fun K hK => ?_) AllReadyH.nil
    go_simp
    have hk4 := (Mod.refl (fun _ => False) W10).alloc (.cells #[.int .u64 (f.id : Int), .int .u64 (f.a : Int)] 22)
    have hI := ints_lit W10 [f.id, f.a] #[.int .u64 (f.id : Int), .int .u64 (f.a : Int)] 2 22 rfl rfl (by decide)
    refine hK.out _ _ ⟨hS.1.kept hk4, hS.2.trans hk4⟩ (fun hS => ?_)
    clear hK K
    generalize hg4 : W10.alloc (.cells #[.int .u64 (f.id : Int), .int .u64 (f.a : Int)] 22) = W4 at *
    refine wpAnyH_ready (rs := [5]) (by kernel_rfl) (by simp) ?_
    refine AllReadyH.cons rfl (fun K hK => ?_) AllReadyH.nil
    go_simp
    refine (ints_any (hS.2.tabs HT.out (fun h => h)) hI (by simp)).mono ?_
    rintro e W5 ⟨v1, rfl, ho1, hk5⟩
    have hb1 := ho1.byts
    obtain ⟨a1, c1, rfl, _⟩ := byts_val hb1
    refine hK.out _ _ ⟨hS.1.kept hk5, hS.2.trans hk5⟩ (fun hS => ?_)
    clear hK K
    refine wpAnyH_ready (rs := [15]) (by kernel_rfl) (by simp) ?_
    refine AllReadyH.cons rfl (fun K hK => ?_) AllReadyH.nil
    go_simp
    have hk15 := (Mod.refl (fun _ => False) W5).alloc (.cells #[.slice a1 (intsL [f.id, f.a]).length c1, .slice (some ⟨W0.heap.size, 0, none⟩) 1 1, .slice da nd dc, .slice (some ⟨w.heap.size, 8, none⟩) 16 16] 23)
    have hP := Blk.new W5 #[.slice a1 (intsL [f.id, f.a]).length c1, .slice (some ⟨W0.heap.size, 0, none⟩) 1 1, .slice da nd dc, .slice (some ⟨w.heap.size, 8, none⟩) 16 16] 23
    have hbd := byts_kept HV.out.d hS.2
    have hbt := hS.1.byts
    have hC := concat4 hP (byts_kept (hb1) hk15) (byts_kept (byts_kept (byts_kept hB hk4) hk5) hk15) (byts_kept hbd hk15) (byts_kept hbt hk15) rfl HLB.out HPOS.out
    refine hK.out _ _ ⟨hS.1.kept hk15, hS.2.trans hk15⟩ (fun hS => ?_)
    clear hK K
    refine wpAnyH_ready (rs := [16]) (by kernel_rfl) (by simp) ?_
    refine AllReadyH.cons rfl (fun K hK => ?_) AllReadyH.nil
    go_simp
    refine hC.mono ?_
    rintro e X9 ⟨v9, rfl, ho9, hk9⟩
    refine hK.out _ _ ⟨hS.1.kept hk9, hS.2.trans hk9⟩ (fun hS => ?_)
    clear hK K
    refine wpAnyH_ready (rs := [17]) (by kernel_rfl) (by simp) ?_
    refine AllReadyH.cons rfl (fun K hK => ?_) AllReadyH.nil
    go_simp
    refine hK.out _ _ hS (fun hS => ?_)
    clear hK K
    refine wpAnyH_done (by kernel_rfl) ?_ _
    have HB := Lib.hid ho9.byts
    have HM9 := Lib.hid hS.2
    obtain ⟨a9, c9, rfl, _⟩ := byts_val ho9.byts
    generalize (intsL [f.id, f.a] ++ [UInt8.ofNat nd] ++ f.d ++ f.t).length = n at *
    clear hS ho9 hk9 hC hP hk15 hbd hbt
    go_wp2_with fail
    go_ret
    exact ⟨_, rfl, HB.out, HM9.out⟩
end Go.Proofs.YteegonadodmeeaaDoor
