/- The walk of the law that whether frames are right, their bytes, and which are the same, are the document's. (printed by genfbm.py) -/
import Derived.Test.YtcnpiclpdgkngaaDoorFbL
import Derived.Test.YtcnpiclpdgkngaaDoorFbF
import Derived.Test.YtcnpiclpdgkngaaDoorFbB
namespace Go.Proofs.YtcnpiclpdgkngaaDoor
open Go.RowKit

set_option maxHeartbeats 8000000 in
set_option maxRecDepth 10000 in
theorem putslaw_any {w : World} {f g : HF} {vs vd us ud : Value} (hT : Tabs w) (hU : UTabs w) (hs : SetV w vs f.st) (hd : Byts w vd f.d) (gs : SetV w us g.st) (gd : Byts w ud g.d) :
    Calls Tryd.prog 3 #[hfA f vs vd, hfA g us ud] w fun e w' => e = .returned (.bool true) ∧ Below w.heap.size w w' := by
  obtain ⟨sa, sc, rfl, _⟩ := set_val hs
  obtain ⟨da, dc, rfl, _⟩ := byts_val hd
  obtain ⟨ta, tc, rfl, _⟩ := set_val gs
  obtain ⟨ea, ec, rfl, _⟩ := byts_val gd
  have hG1 := fun (X : World) (h : Mod (fun _ => False) w X) => refgreat_any (hs.kept h) (byts_kept hd h)
  have hG2 := fun (X : World) (h : Mod (fun _ => False) w X) => refgreat_any (gs.kept h) (byts_kept gd h)
  have hF : greatH f = false → ∀ X, Mod (fun _ => False) w X → HFV X f (.slice sa f.st.length sc) (.slice da f.d.length dc) := fun hg X h => ⟨hs.kept h, byts_kept hd h, by unfold greatH at hg; simp only [Bool.or_eq_false_iff, decide_eq_false_iff_not] at hg; omega, by unfold greatH at hg; simp only [Bool.or_eq_false_iff, decide_eq_false_iff_not] at hg; omega⟩
  have hGG : greatH g = false → ∀ X, Mod (fun _ => False) w X → HFV X g (.slice ta g.st.length tc) (.slice ea g.d.length ec) := fun hg X h => ⟨gs.kept h, byts_kept gd h, by unfold greatH at hg; simp only [Bool.or_eq_false_iff, decide_eq_false_iff_not] at hg; omega, by unfold greatH at hg; simp only [Bool.or_eq_false_iff, decide_eq_false_iff_not] at hg; omega⟩
  have hR1 := fun (hg : greatH f = false) (X : World) (h : Mod (fun _ => False) w X) => right_any (hF hg X h)
  have hR2 := fun (hg : greatH f = false) (X : World) (h : Mod (fun _ => False) w X) => refright_any (hF hg X h)
  have hP1 := fun (hg : greatH f = false) (X : World) (h : Mod (fun _ => False) w X) => hput_any (h.tabs hT (fun h => h)) (hF hg X h)
  have hP2 := fun (hg : greatH f = false) (X : World) (h : Mod (fun _ => False) w X) => refhput_any (hF hg X h)
  have hS1 := fun (hg : greatH f = false) (hg' : greatH g = false) (X : World) (h : Mod (fun _ => False) w X) => same_hf (hF hg X h) (hGG hg' X h)
  have hS2 := fun (hg : greatH f = false) (hg' : greatH g = false) (X : World) (h : Mod (fun _ => False) w X) => refsame_any (hF hg X h) (hGG hg' X h)
  have hAL := fun (X : World) (h : Mod (fun _ => False) w X) => alive_any X (h.tabs hT (fun h => h)) (hU.kept h)
  unfold hfA at *
  clear hF hGG hT hU hs hd gs gd
  generalize f.st.length = ns at *
  generalize f.d.length = nd at *
  generalize g.st.length = ms at *
  generalize g.d.length = md at *
  generalize (f.id : Int) = i at *
  generalize (g.id : Int) = i2 at *
  generalize f.k = k at *
  generalize g.k = k2 at *
  generalize greatH f = gr at *
  generalize greatH g = gr2 at *
  generalize rightH f = R at *
  generalize sameHF f g = Q at *
  generalize hfputL f = L at *
  have HG1 := Lib.hid hG1
  have HG2 := Lib.hid hG2
  have HR1 := Lib.hid hR1
  have HR2 := Lib.hid hR2
  have HP1 := Lib.hid hP1
  have HP2 := Lib.hid hP2
  have HS1 := Lib.hid hS1
  have HS2 := Lib.hid hS2
  have HAL := Lib.hid hAL
  have HM0 : Hid (Mod (fun _ => False) w ((w.alloc (.cells #[.int .i64 k, .int .u64 i, .slice sa ns sc, .slice da nd dc] 26)).alloc (.cells #[.int .i64 k2, .int .u64 i2, .slice ta ms tc, .slice ea md ec] 26))) := ((Mod.refl _ w).alloc _).alloc _
  have HBF : Hid (Blk ((w.alloc (.cells #[.int .i64 k, .int .u64 i, .slice sa ns sc, .slice da nd dc] 26)).alloc (.cells #[.int .i64 k2, .int .u64 i2, .slice ta ms tc, .slice ea md ec] 26)) w.heap.size #[.int .i64 k, .int .u64 i, .slice sa ns sc, .slice da nd dc] 26) := (Blk.new w _ _).alloc _
  have HBG : Hid (Blk ((w.alloc (.cells #[.int .i64 k, .int .u64 i, .slice sa ns sc, .slice da nd dc] 26)).alloc (.cells #[.int .i64 k2, .int .u64 i2, .slice ta ms tc, .slice ea md ec] 26)) (w.heap.size + 1) #[.int .i64 k2, .int .u64 i2, .slice ta ms tc, .slice ea md ec] 26) := by
    have := Blk.new (w.alloc (.cells #[.int .i64 k, .int .u64 i, .slice sa ns sc, .slice da nd dc] 26)) #[.int .i64 k2, .int .u64 i2, .slice ta ms tc, .slice ea md ec] 26
    rw [show (w.alloc (.cells #[.int .i64 k, .int .u64 i, .slice sa ns sc, .slice da nd dc] 26)).heap.size = w.heap.size + 1 by simp] at this
    exact this
  clear hG1 hG2 hR1 hR2 hP1 hP2 hS1 hS2 hAL
  go_enter Tryd.func3, Tryd.ntmps3
  go_wp2_with fail
  refine (HAL.out _ HM0.out).mono ?_
  rintro e w1 ⟨rfl, hM1⟩
  generalize hW : ((w.alloc (.cells #[.int .i64 k, .int .u64 i, .slice sa ns sc, .slice da nd dc] 26)).alloc (.cells #[.int .i64 k2, .int .u64 i2, .slice ta ms tc, .slice ea md ec] 26)) = W at *
  clear hW
  have HM1 := Lib.hid hM1
  clear hM1 HAL
  have c0 := (HM1.out.blk HBF.out (fun h => h)).cellAt 0 rfl
  have c1 := (HM1.out.blk HBF.out (fun h => h)).cellAt 1 rfl
  have c2 := (HM1.out.blk HBF.out (fun h => h)).cellAt 2 rfl
  have c3 := (HM1.out.blk HBF.out (fun h => h)).cellAt 3 rfl
  go_wp2_with fail
  refine (HG1.out _ (HM0.out.trans HM1.out)).mono ?_
  rintro e w2 ⟨rfl, hM2⟩
  have HM2 := Lib.hid (HM1.out.trans hM2)
  clear hM2 HM1 HG1 c0 c1 c2 c3
  cases gr
  case true =>
    go_wp2_with fail
    go_ret
    exact ⟨rfl, (HM0.out.trans HM2.out).none_below⟩
  have c0 := (HM2.out.blk HBG.out (fun h => h)).cellAt 0 rfl
  have c1 := (HM2.out.blk HBG.out (fun h => h)).cellAt 1 rfl
  have c2 := (HM2.out.blk HBG.out (fun h => h)).cellAt 2 rfl
  have c3 := (HM2.out.blk HBG.out (fun h => h)).cellAt 3 rfl
  go_wp2_with fail
  refine (HG2.out _ (HM0.out.trans HM2.out)).mono ?_
  rintro e w3 ⟨rfl, hM3⟩
  have HM3 := Lib.hid (HM2.out.trans hM3)
  clear hM3 HM2 HG2 c0 c1 c2 c3
  cases gr2
  case true =>
    go_wp2_with fail
    go_ret
    exact ⟨rfl, (HM0.out.trans HM3.out).none_below⟩
  have KHR1 := Lib.hid (fun X (h : Mod (fun _ => False) W X) => HR1.out (by trivial) X (HM0.out.trans h))
  have KHR2 := Lib.hid (fun X (h : Mod (fun _ => False) W X) => HR2.out (by trivial) X (HM0.out.trans h))
  have KHP1 := Lib.hid (fun X (h : Mod (fun _ => False) W X) => HP1.out (by trivial) X (HM0.out.trans h))
  have KHP2 := Lib.hid (fun X (h : Mod (fun _ => False) W X) => HP2.out (by trivial) X (HM0.out.trans h))
  have KHS1 := Lib.hid (fun X (h : Mod (fun _ => False) W X) => HS1.out (by trivial) (by trivial) X (HM0.out.trans h))
  have KHS2 := Lib.hid (fun X (h : Mod (fun _ => False) W X) => HS2.out (by trivial) (by trivial) X (HM0.out.trans h))
  clear HR1 HR2 HP1 HP2 HS1 HS2
  have e1 : (R == R) = true := by simp
  have e2 : (Q == Q) = true := by simp
  go_wp2_with fail
  have hd := HM3.out.drew
  generalize w.heap.size = gF at *
  refine wp_region_held_drew (S := fun X => Blk X gF #[.int .i64 k, .int .u64 i, .slice sa ns sc, .slice da nd dc] 26 ∧ Blk X (gF + 1) #[.int .i64 k2, .int .u64 i2, .slice ta ms tc, .slice ea md ec] 26 ∧ True) (by kernel_rfl) ⟨hd.blk HBF.out (fun h => h), hd.blk HBG.out (fun h => h), trivial⟩ (fun hS => ?_)
  refine wpAnyH_take (i := 0) (v := .agg #[.int .i64 k, .int .u64 i, .slice sa ns sc, .slice da nd dc]) rfl (by kernel_rfl) (by kernel_rfl) (by kernel_rfl) (fun _ _ _ h => h) (Or.inl ⟨by rfl, fun X hX => ?_⟩) hS ?_
  · have c0 := hX.1.cellAt 0 rfl; have c1 := hX.1.cellAt 1 rfl; have c2 := hX.1.cellAt 2 rfl; have c3 := hX.1.cellAt 3 rfl; go_simp
  refine wpAnyH_take (i := 2) (v := .agg #[.int .i64 k, .int .u64 i, .slice sa ns sc, .slice da nd dc]) rfl (by kernel_rfl) (by kernel_rfl) (by kernel_rfl) (fun _ _ _ h => h) (Or.inl ⟨by rfl, fun X hX => ?_⟩) hS ?_
  · have c0 := hX.1.cellAt 0 rfl; have c1 := hX.1.cellAt 1 rfl; have c2 := hX.1.cellAt 2 rfl; have c3 := hX.1.cellAt 3 rfl; go_simp
  refine wpAnyH_ready (rs := [1]) (by kernel_rfl) (by simp) ?_
  refine AllReadyH.cons rfl (fun K hK => ?_) AllReadyH.nil
  go_simp
  refine (KHR1.out _ hd).mono ?_
  rintro e X1 ⟨rfl, hk⟩
  have d1 := hd.trans hk
  clear hk
  refine hK.out _ _ ⟨d1.blk HBF.out (fun h => h), d1.blk HBG.out (fun h => h), trivial⟩ (fun hS => ?_)
  clear hK K
  refine wpAnyH_ready (rs := [3]) (by kernel_rfl) (by simp) ?_
  refine AllReadyH.cons rfl (fun K hK => ?_) AllReadyH.nil
  go_simp
  refine (KHR2.out _ d1).mono ?_
  rintro e X2 ⟨rfl, hk⟩
  have d2 := d1.trans hk
  clear hk
  refine hK.out _ _ ⟨d2.blk HBF.out (fun h => h), d2.blk HBG.out (fun h => h), trivial⟩ (fun hS => ?_)
  clear hK K
  refine wpAnyH_take (i := 4) (v := .bool true) rfl (by kernel_rfl) (by kernel_rfl) (by kernel_rfl) (fun _ _ _ h => h) (Or.inl ⟨by rfl, fun X hX => ?_⟩) hS ?_
  · go_simp
  refine wpAnyH_take (i := 5) (v := .bool true) rfl (by kernel_rfl) (by kernel_rfl) (by kernel_rfl) (fun _ _ _ h => h) (Or.inl ⟨by rfl, fun X hX => ?_⟩) hS ?_
  · go_simp
  refine wpAnyH_take (i := 6) (v := .agg #[.int .i64 k, .int .u64 i, .slice sa ns sc, .slice da nd dc]) rfl (by kernel_rfl) (by kernel_rfl) (by kernel_rfl) (fun _ _ _ h => h) (Or.inl ⟨by rfl, fun X hX => ?_⟩) hS ?_
  · have c0 := hX.1.cellAt 0 rfl; have c1 := hX.1.cellAt 1 rfl; have c2 := hX.1.cellAt 2 rfl; have c3 := hX.1.cellAt 3 rfl; go_simp
  refine wpAnyH_take (i := 8) (v := .agg #[.int .i64 k, .int .u64 i, .slice sa ns sc, .slice da nd dc]) rfl (by kernel_rfl) (by kernel_rfl) (by kernel_rfl) (fun _ _ _ h => h) (Or.inl ⟨by rfl, fun X hX => ?_⟩) hS ?_
  · have c0 := hX.1.cellAt 0 rfl; have c1 := hX.1.cellAt 1 rfl; have c2 := hX.1.cellAt 2 rfl; have c3 := hX.1.cellAt 3 rfl; go_simp
  refine wpAnyH_ready (rs := [7]) (by kernel_rfl) (by simp) ?_
  refine AllReadyH.cons rfl (fun K hK => ?_) AllReadyH.nil
  go_simp
  refine (KHP1.out _ d2).mono ?_
  rintro e X3 ⟨v3, rfl, ho3, hk⟩
  obtain ⟨a3, c3, rfl, _⟩ := byts_val ho3.byts
  have d3 := d2.trans hk
  clear hk
  refine hK.out _ _ ⟨d3.blk HBF.out (fun h => h), d3.blk HBG.out (fun h => h), trivial⟩ (fun hS => ?_)
  clear hK K
  refine wpAnyH_ready (rs := [9]) (by kernel_rfl) (by simp) ?_
  refine AllReadyH.cons rfl (fun K hK => ?_) AllReadyH.nil
  go_simp
  refine (KHP2.out _ d3).mono ?_
  rintro e X4 ⟨v4, rfl, ho4, hk⟩
  obtain ⟨a4, c4, rfl, _⟩ := byts_val ho4.byts
  have hb3 := byts_kept ho3.byts hk
  have d4 := d3.trans hk
  clear hk
  refine hK.out _ _ ⟨d4.blk HBF.out (fun h => h), d4.blk HBG.out (fun h => h), trivial⟩ (fun hS => ?_)
  clear hK K
  refine wpAnyH_ready (rs := [10]) (by kernel_rfl) (by simp) ?_
  refine AllReadyH.cons rfl (fun K hK => ?_) AllReadyH.nil
  go_simp
  refine (same_c hb3 ho4.byts).mono ?_
  rintro e X5 ⟨rfl, hk⟩
  rw [show decide (L = L) = true from decide_eq_true rfl]
  have d5 := d4.trans hk
  clear hk
  refine hK.out _ _ ⟨d5.blk HBF.out (fun h => h), d5.blk HBG.out (fun h => h), trivial⟩ (fun hS => ?_)
  clear hK K
  refine wpAnyH_take (i := 11) (v := .bool true) rfl (by kernel_rfl) (by kernel_rfl) (by kernel_rfl) (fun _ _ _ h => h) (Or.inl ⟨by rfl, fun X hX => ?_⟩) hS ?_
  · go_simp
  refine wpAnyH_take (i := 12) (v := .bool true) rfl (by kernel_rfl) (by kernel_rfl) (by kernel_rfl) (fun _ _ _ h => h) (Or.inl ⟨by rfl, fun X hX => ?_⟩) hS ?_
  · go_simp
  refine wpAnyH_take (i := 13) (v := .agg #[.int .i64 k, .int .u64 i, .slice sa ns sc, .slice da nd dc]) rfl (by kernel_rfl) (by kernel_rfl) (by kernel_rfl) (fun _ _ _ h => h) (Or.inl ⟨by rfl, fun X hX => ?_⟩) hS ?_
  · have c0 := hX.1.cellAt 0 rfl; have c1 := hX.1.cellAt 1 rfl; have c2 := hX.1.cellAt 2 rfl; have c3 := hX.1.cellAt 3 rfl; go_simp
  refine wpAnyH_take (i := 14) (v := .agg #[.int .i64 k2, .int .u64 i2, .slice ta ms tc, .slice ea md ec]) rfl (by kernel_rfl) (by kernel_rfl) (by kernel_rfl) (fun _ _ _ h => h) (Or.inl ⟨by rfl, fun X hX => ?_⟩) hS ?_
  · have c0 := hX.2.1.cellAt 0 rfl; have c1 := hX.2.1.cellAt 1 rfl; have c2 := hX.2.1.cellAt 2 rfl; have c3 := hX.2.1.cellAt 3 rfl; go_simp
  refine wpAnyH_take (i := 16) (v := .agg #[.int .i64 k, .int .u64 i, .slice sa ns sc, .slice da nd dc]) rfl (by kernel_rfl) (by kernel_rfl) (by kernel_rfl) (fun _ _ _ h => h) (Or.inl ⟨by rfl, fun X hX => ?_⟩) hS ?_
  · have c0 := hX.1.cellAt 0 rfl; have c1 := hX.1.cellAt 1 rfl; have c2 := hX.1.cellAt 2 rfl; have c3 := hX.1.cellAt 3 rfl; go_simp
  refine wpAnyH_take (i := 17) (v := .agg #[.int .i64 k2, .int .u64 i2, .slice ta ms tc, .slice ea md ec]) rfl (by kernel_rfl) (by kernel_rfl) (by kernel_rfl) (fun _ _ _ h => h) (Or.inl ⟨by rfl, fun X hX => ?_⟩) hS ?_
  · have c0 := hX.2.1.cellAt 0 rfl; have c1 := hX.2.1.cellAt 1 rfl; have c2 := hX.2.1.cellAt 2 rfl; have c3 := hX.2.1.cellAt 3 rfl; go_simp
  refine wpAnyH_ready (rs := [15]) (by kernel_rfl) (by simp) ?_
  refine AllReadyH.cons rfl (fun K hK => ?_) AllReadyH.nil
  go_simp
  refine (KHS1.out _ d5).mono ?_
  rintro e X6 ⟨rfl, hk⟩
  have d6 := d5.trans hk
  clear hk
  refine hK.out _ _ ⟨d6.blk HBF.out (fun h => h), d6.blk HBG.out (fun h => h), trivial⟩ (fun hS => ?_)
  clear hK K
  refine wpAnyH_ready (rs := [18]) (by kernel_rfl) (by simp) ?_
  refine AllReadyH.cons rfl (fun K hK => ?_) AllReadyH.nil
  go_simp
  refine (KHS2.out _ d6).mono ?_
  rintro e X7 ⟨rfl, hk⟩
  have d7 := d6.trans hk
  clear hk
  refine hK.out _ _ ⟨d7.blk HBF.out (fun h => h), d7.blk HBG.out (fun h => h), trivial⟩ (fun hS => ?_)
  clear hK K
  refine wpAnyH_take (i := 19) (v := .bool true) rfl (by kernel_rfl) (by kernel_rfl) (by kernel_rfl) (fun _ _ _ h => h) (Or.inl ⟨by rfl, fun X hX => ?_⟩) hS ?_
  · go_simp
  refine wpAnyH_take (i := 20) (v := .bool true) rfl (by kernel_rfl) (by kernel_rfl) (by kernel_rfl) (fun _ _ _ h => h) (Or.inl ⟨by rfl, fun X hX => ?_⟩) hS ?_
  · go_simp
  refine wpAnyH_take (i := 21) (v := .bool true) rfl (by kernel_rfl) (by kernel_rfl) (by kernel_rfl) (fun _ _ _ h => h) (Or.inl ⟨by rfl, fun X hX => ?_⟩) hS ?_
  · go_simp
  refine wpAnyH_done (by kernel_rfl) ?_ _
  go_wp2_with fail
  go_ret
  exact ⟨rfl, (HM0.out.trans d7).none_below⟩
end Go.Proofs.YtcnpiclpdgkngaaDoor
