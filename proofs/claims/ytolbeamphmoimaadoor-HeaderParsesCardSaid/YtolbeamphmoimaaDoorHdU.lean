/- The walk of the law on whether headers are right, their bytes, and which are the same. -/
import Derived.Test.YtolbeamphmoimaaDoorHdT
import Derived.Test.YtolbeamphmoimaaDoorHdC
namespace Go.Proofs.YtolbeamphmoimaaDoor
open Go.RowKit

/-- What the region reads: two headers' cells. -/
def cells9 (X : World) (b : Nat) (v0 v1 v2 v3 v4 v5 v6 v7 v8 : Value) : Prop :=
  X.cell? ⟨b, 0, none⟩ = some v0 ∧ X.cell? ⟨b, 1, none⟩ = some v1 ∧ X.cell? ⟨b, 2, none⟩ = some v2 ∧ X.cell? ⟨b, 3, none⟩ = some v3 ∧ X.cell? ⟨b, 4, none⟩ = some v4 ∧ X.cell? ⟨b, 5, none⟩ = some v5 ∧ X.cell? ⟨b, 6, none⟩ = some v6 ∧ X.cell? ⟨b, 7, none⟩ = some v7 ∧ X.cell? ⟨b, 8, none⟩ = some v8
theorem Mod.none_below {w w' : World} (h : Mod (fun _ => False) w w') : Below w.heap.size w w' := h.below (Nat.le_refl _) (fun _ _ h => h.elim)

set_option maxHeartbeats 8000000 in
set_option maxRecDepth 10000 in
theorem hputs_any {w : World} {h g : Hd} {d s t c d' s' t' c' : Value} (hT : Tabs w) (hv : HdV w h d s t c) (gv : HdV w g d' s' t' c') :
    Calls Tryd.prog 3 #[hdV h d s t c, hdV g d' s' t' c'] w fun e w' => e = .returned (.bool true) ∧ Below w.heap.size w w' := by
  have HT := Lib.hid hT
  have HV := Lib.hid hv
  have GV := Lib.hid gv
  have hgr := Lib.hid (fun X (hM : Mod (fun _ => False) w X) => great_any (hv.kept hM))
  have ggr := Lib.hid (fun X (hM : Mod (fun _ => False) w X) => great_any (gv.kept hM))
  have HR1 := Lib.hid (fun Z X (h0 : Mod (fun _ => False) w Z) (hM : Mod (fun _ => False) Z X) => (right_any (hv.kept (h0.trans hM))).mono fun _ _ (h : _ ∧ _) => (⟨h.1, hM.trans h.2⟩ : _ ∧ Mod (fun _ => False) Z _))
  have HR2 := Lib.hid (fun Z X (h0 : Mod (fun _ => False) w Z) (hM : Mod (fun _ => False) Z X) => (refright_any (hv.kept (h0.trans hM))).mono fun _ _ (h : _ ∧ _) => (⟨h.1, hM.trans h.2⟩ : _ ∧ Mod (fun _ => False) Z _))
  have HS1 := Lib.hid (fun Z X (h0 : Mod (fun _ => False) w Z) (hM : Mod (fun _ => False) Z X) => (hsame_any (hv.kept (h0.trans hM)) (gv.kept (h0.trans hM))).mono fun _ _ (h : _ ∧ _) => (⟨h.1, hM.trans h.2⟩ : _ ∧ Mod (fun _ => False) Z _))
  have HS2 := Lib.hid (fun Z X (h0 : Mod (fun _ => False) w Z) (hM : Mod (fun _ => False) Z X) => (refhsame_any (hv.kept (h0.trans hM)) (gv.kept (h0.trans hM))).mono fun _ _ (h : _ ∧ _) => (⟨h.1, hM.trans h.2⟩ : _ ∧ Mod (fun _ => False) Z _))
  have HP1 : Hid (∀ Z X, Mod (fun _ => False) w Z → Mod (fun _ => False) Z X → Calls Tryd.prog 15 #[hdV h d s t c] X fun e Y => ∃ a cp, e = .returned (.slice a (hputL h).length cp) ∧ Byts Y (.slice a (hputL h).length cp) (hputL h) ∧ Mod (fun _ => False) Z Y) := by
    intro Z X h0 hM
    refine (hput_any ((h0.trans hM).tabs HT.out (fun h => h)) (hv.kept (h0.trans hM))).mono ?_
    rintro e Y ⟨v, rfl, ho, hY⟩
    obtain ⟨a, cp, rfl, _⟩ := byts_val ho.byts
    exact ⟨a, cp, rfl, ho.byts, hM.trans hY⟩
  have HP2 : Hid (∀ Z X v, Byts X v (hputL h) → Mod (fun _ => False) w Z → Mod (fun _ => False) Z X → Calls Tryd.prog 16 #[hdV h d s t c] X fun e Y => ∃ a cp, e = .returned (.slice a (hputL h).length cp) ∧ Byts Y (.slice a (hputL h).length cp) (hputL h) ∧ Byts Y v (hputL h) ∧ Mod (fun _ => False) Z Y) := by
    intro Z X v0 hb h0 hM
    refine (refhput_any (hv.kept (h0.trans hM))).mono ?_
    rintro e Y ⟨v, rfl, ho, hY⟩
    obtain ⟨a, cp, rfl, _⟩ := byts_val ho.byts
    exact ⟨a, cp, rfl, ho.byts, byts_kept hb hY, hM.trans hY⟩
  have HSM : Hid (∀ Z X v v', Byts X v (hputL h) → Byts X v' (hputL h) → Mod (fun _ => False) Z X → Calls Tryd.prog 14 #[v, v'] X fun e Y => e = .returned (.bool true) ∧ Mod (fun _ => False) Z Y) := by
    intro Z X v v' hb hb' hM
    exact (same_m hb hb').mono fun _ _ (h : _ ∧ _) => ⟨by rw [h.1]; simp, hM.trans h.2⟩
  obtain ⟨da, dc, rfl, _⟩ := byts_val hv.d
  obtain ⟨sa, sc, rfl, _⟩ := byts_val hv.s
  obtain ⟨ta, tc, rfl, _⟩ := byts_val hv.t
  obtain ⟨ca, cc, rfl, _⟩ := byts_val hv.c
  obtain ⟨da', dc', rfl, _⟩ := byts_val gv.d
  obtain ⟨sa', sc', rfl, _⟩ := byts_val gv.s
  obtain ⟨ta', tc', rfl, _⟩ := byts_val gv.t
  obtain ⟨ca', cc', rfl, _⟩ := byts_val gv.c
  unfold hdV at hgr ggr HR1 HR2 HS1 HS2 HP1 HP2 ⊢
  clear hT hv gv HV GV
  generalize decide (600 < h.dst.length + h.src.length + h.tok.length + h.cut.length) = gh at *
  generalize decide (600 < g.dst.length + g.src.length + g.tok.length + g.cut.length) = gg at *
  generalize (hputL h).length = nl at *
  generalize rightB h = rB at *
  generalize sameB h g = sB at *
  generalize h.dst.length = nd at *
  generalize h.src.length = ns at *
  generalize h.tok.length = nt at *
  generalize h.cut.length = nc at *
  generalize h.long = lo at *
  generalize h.phase = ph at *
  generalize h.kind = ki at *
  generalize (h.ver : Int) = ve at *
  generalize h.rest = re at *
  generalize g.dst.length = nd' at *
  generalize g.src.length = ns' at *
  generalize g.tok.length = nt' at *
  generalize g.cut.length = nc' at *
  generalize g.long = lo' at *
  generalize g.phase = ph' at *
  generalize g.kind = ki' at *
  generalize (g.ver : Int) = ve' at *
  generalize g.rest = re' at *
  go_enter Tryd.func3, Tryd.ntmps3
  go_wp2_with fail
  have hM0 : Mod (fun _ => False) w _ := (((Mod.refl (fun _ => False) w).alloc (.cells #[.bool lo, .bool ph, .int .i64 ki, .int .u32 ve, .slice da nd dc, .slice sa ns sc, .slice ta nt tc, .slice ca nc cc, .int .i64 re] 25)).alloc (.cells #[.bool lo', .bool ph', .int .i64 ki', .int .u32 ve', .slice da' nd' dc', .slice sa' ns' sc', .slice ta' nt' tc', .slice ca' nc' cc', .int .i64 re'] 25))
  refine (alive_any _ (hM0.tabs HT.out (fun h => h))).mono ?_
  rintro e w1 ⟨rfl, hM1⟩
  have HB1 := hM1.blk ((Blk.new w _ _).alloc _) (fun h => h)
  have HB2 := hM1.blk (Blk.new (w.alloc _) _ _) (fun h => h)
  rw [show ∀ o, (w.alloc o).heap.size = w.heap.size + 1 from fun o => by simp] at HB2
  have hMw := Lib.hid (hM0.trans hM1)
  have HH1 := Lib.hid HB1
  have HH2 := Lib.hid HB2
  obtain ⟨c0, c1, c2, c3, c4, c5, c6, c7, c8, c9⟩ := hd_cells HB1
  obtain ⟨g0, g1, g2, g3, g4, g5, g6, g7, g8, g9⟩ := hd_cells HB2
  clear HB1 HB2 hM0 hM1
  go_wp2_with fail
  refine (hgr.out _ hMw.out).mono ?_
  rintro e w2 ⟨rfl, hM2⟩
  have hMw2 := Lib.hid (hMw.out.trans hM2)
  have HB1 := hM2.blk HH1.out (fun h => h)
  have HB2 := hM2.blk HH2.out (fun h => h)
  have HH1' := Lib.hid HB1
  have HH2' := Lib.hid HB2
  clear c0 c1 c2 c3 c4 c5 c6 c7 c8 c9 g0 g1 g2 g3 g4 g5 g6 g7 g8 g9 hM2
  obtain ⟨c0, c1, c2, c3, c4, c5, c6, c7, c8, c9⟩ := hd_cells HB1
  obtain ⟨g0, g1, g2, g3, g4, g5, g6, g7, g8, g9⟩ := hd_cells HB2
  clear HB1 HB2
  cases gh
  case true =>
    go_wp2_with fail
    go_ret
    exact ⟨rfl, hMw2.out.none_below⟩
  case false =>
    go_wp2_with fail
    refine (ggr.out _ hMw2.out).mono ?_
    rintro e w3 ⟨rfl, hM3⟩
    have hMw3 := Lib.hid (hMw2.out.trans hM3)
    have HB1 := hM3.blk HH1'.out (fun h => h)
    have HB2 := hM3.blk HH2'.out (fun h => h)
    clear c0 c1 c2 c3 c4 c5 c6 c7 c8 c9 g0 g1 g2 g3 g4 g5 g6 g7 g8 g9 hM3
    cases gg
    case true =>
      go_wp2_with fail
      go_ret
      exact ⟨rfl, hMw3.out.none_below⟩
    case false =>
      obtain ⟨c0, c1, c2, c3, c4, c5, c6, c7, c8, c9⟩ := hd_cells HB1
      obtain ⟨g0, g1, g2, g3, g4, g5, g6, g7, g8, g9⟩ := hd_cells HB2
      clear HB1 HB2
      go_wp2_with fail
      have hN0 : Mod (fun _ => False) w3 w3 := Mod.refl _ _
      have HSX : Hid (∀ X, Mod (fun _ => False) w3 X → X.cell? ⟨w.heap.size, 0, none⟩ = some (.bool lo) ∧ X.cell? ⟨w.heap.size, 1, none⟩ = some (.bool ph) ∧ X.cell? ⟨w.heap.size, 2, none⟩ = some (.int .i64 ki) ∧ X.cell? ⟨w.heap.size, 3, none⟩ = some (.int .u32 ve) ∧ X.cell? ⟨w.heap.size, 4, none⟩ = some (.slice da nd dc) ∧ X.cell? ⟨w.heap.size, 5, none⟩ = some (.slice sa ns sc) ∧ X.cell? ⟨w.heap.size, 6, none⟩ = some (.slice ta nt tc) ∧ X.cell? ⟨w.heap.size, 7, none⟩ = some (.slice ca nc cc) ∧ X.cell? ⟨w.heap.size, 8, none⟩ = some (.int .i64 re) ∧ X.cell? ⟨w.heap.size + 1, 0, none⟩ = some (.bool lo') ∧ X.cell? ⟨w.heap.size + 1, 1, none⟩ = some (.bool ph') ∧ X.cell? ⟨w.heap.size + 1, 2, none⟩ = some (.int .i64 ki') ∧ X.cell? ⟨w.heap.size + 1, 3, none⟩ = some (.int .u32 ve') ∧ X.cell? ⟨w.heap.size + 1, 4, none⟩ = some (.slice da' nd' dc') ∧ X.cell? ⟨w.heap.size + 1, 5, none⟩ = some (.slice sa' ns' sc') ∧ X.cell? ⟨w.heap.size + 1, 6, none⟩ = some (.slice ta' nt' tc') ∧ X.cell? ⟨w.heap.size + 1, 7, none⟩ = some (.slice ca' nc' cc') ∧ X.cell? ⟨w.heap.size + 1, 8, none⟩ = some (.int .i64 re') ∧ Mod (fun _ => False) w3 X) := fun X hX => ⟨hX.cellAt c0 (fun h => h), hX.cellAt c1 (fun h => h), hX.cellAt c2 (fun h => h), hX.cellAt c3 (fun h => h), hX.cellAt c4 (fun h => h), hX.cellAt c5 (fun h => h), hX.cellAt c6 (fun h => h), hX.cellAt c7 (fun h => h), hX.cellAt c8 (fun h => h), hX.cellAt g0 (fun h => h), hX.cellAt g1 (fun h => h), hX.cellAt g2 (fun h => h), hX.cellAt g3 (fun h => h), hX.cellAt g4 (fun h => h), hX.cellAt g5 (fun h => h), hX.cellAt g6 (fun h => h), hX.cellAt g7 (fun h => h), hX.cellAt g8 (fun h => h), hX⟩
      clear c0 c1 c2 c3 c4 c5 c6 c7 c8 c9 g0 g1 g2 g3 g4 g5 g6 g7 g8 g9 HH1 HH2 HH1' HH2' hMw hMw2 hgr ggr
      go_region_held3 (fun X => X.cell? ⟨w.heap.size, 0, none⟩ = some (.bool lo) ∧ X.cell? ⟨w.heap.size, 1, none⟩ = some (.bool ph) ∧ X.cell? ⟨w.heap.size, 2, none⟩ = some (.int .i64 ki) ∧ X.cell? ⟨w.heap.size, 3, none⟩ = some (.int .u32 ve) ∧ X.cell? ⟨w.heap.size, 4, none⟩ = some (.slice da nd dc) ∧ X.cell? ⟨w.heap.size, 5, none⟩ = some (.slice sa ns sc) ∧ X.cell? ⟨w.heap.size, 6, none⟩ = some (.slice ta nt tc) ∧ X.cell? ⟨w.heap.size, 7, none⟩ = some (.slice ca nc cc) ∧ X.cell? ⟨w.heap.size, 8, none⟩ = some (.int .i64 re) ∧ X.cell? ⟨w.heap.size + 1, 0, none⟩ = some (.bool lo') ∧ X.cell? ⟨w.heap.size + 1, 1, none⟩ = some (.bool ph') ∧ X.cell? ⟨w.heap.size + 1, 2, none⟩ = some (.int .i64 ki') ∧ X.cell? ⟨w.heap.size + 1, 3, none⟩ = some (.int .u32 ve') ∧ X.cell? ⟨w.heap.size + 1, 4, none⟩ = some (.slice da' nd' dc') ∧ X.cell? ⟨w.heap.size + 1, 5, none⟩ = some (.slice sa' ns' sc') ∧ X.cell? ⟨w.heap.size + 1, 6, none⟩ = some (.slice ta' nt' tc') ∧ X.cell? ⟨w.heap.size + 1, 7, none⟩ = some (.slice ca' nc' cc') ∧ X.cell? ⟨w.heap.size + 1, 8, none⟩ = some (.int .i64 re') ∧ Mod (fun _ => False) w3 X) (first | assumption | (refine HSX.out _ ?_; first | assumption | exact hN0.drew | (refine Mod.drew ?_; assumption)) | (go_split_ands; assumption))
        (first
          | (go_at_call 12; (with_reducible refine (HR1.out w3 _ hMw3.out ?_).mono ?_); (first | assumption | exact hN0.drew | (go_split_ands; assumption)); rintro e Y1 ⟨rfl, hY1⟩)
          | (go_at_call 13; (with_reducible refine (HR2.out w3 _ hMw3.out ?_).mono ?_); (first | assumption | exact hN0.drew | (go_split_ands; assumption)); rintro e Y2 ⟨rfl, hY2⟩)
          | (go_at_call 15; (with_reducible refine (HP1.out w3 _ hMw3.out ?_).mono ?_); (first | assumption | exact hN0.drew | (go_split_ands; assumption)); rintro e Y3 ⟨a3, cp3, rfl, hb3, hY3⟩)
          | (go_at_call 16; (with_reducible refine (HP2.out w3 _ _ hb3 hMw3.out ?_).mono ?_); (first | assumption | exact hN0.drew | (go_split_ands; assumption)); rintro e Y4 ⟨a4, cp4, rfl, hb4, hb34, hY4⟩)
          | (go_at_call 14; (with_reducible refine (HSM.out w3 _ _ _ hb34 hb4 ?_).mono ?_); (first | assumption | exact hN0.drew | (go_split_ands; assumption)); rintro e Y5 ⟨rfl, hY5⟩)
          | (go_at_call 17; (with_reducible refine (HS1.out w3 _ hMw3.out ?_).mono ?_); (first | assumption | exact hN0.drew | (go_split_ands; assumption)); rintro e Y6 ⟨rfl, hY6⟩)
          | (go_at_call 18; (with_reducible refine (HS2.out w3 _ hMw3.out ?_).mono ?_); (first | assumption | exact hN0.drew | (go_split_ands; assumption)); rintro e Y7 ⟨rfl, hY7⟩)
          | fail)
      all_goals
        go_wp2_with fail
        go_ret
        exact ⟨rfl, (hMw3.out.trans hY7).none_below⟩
end Go.Proofs.YtolbeamphmoimaaDoor
