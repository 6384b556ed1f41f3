/- The walk of the law that two right headers have the same bytes just if they are the same, but for what a short one has behind it. -/
import Derived.Test.YtolbeamphmoimaaDoorHdU
import Derived.Test.YtolbeamphmoimaaDoorHdX
namespace Go.Proofs.YtolbeamphmoimaaDoor
open Go.RowKit

theorem same_iff (h g : Hd) : sameB h g = true ↔ h = g := by
  obtain ⟨lo, ph, ki, ve, D, S, T, C, rs⟩ := h
  obtain ⟨lo', ph', ki', ve', D', S', T', C', rs'⟩ := g
  simp [sameB, and_assoc]
  intro _ _ _ _
  constructor
  · rintro ⟨a5, a6, a7, a8, a9⟩; exact ⟨a6, a7, a8, a9, a5⟩
  · rintro ⟨a6, a7, a8, a9, a5⟩; exact ⟨a5, a6, a7, a8, a9⟩
/-- A short header's rest is left out. -/
def norest (h : Hd) : Hd := if h.long then h else { h with rest := 0 }
theorem norest_right {h : Hd} (hr : rightB h = true) : rightB (norest h) = true := by
  unfold norest
  cases hl : h.long with
  | true => simpa using hr
  | false =>
    simp only [Bool.false_eq_true, if_false]
    simp [rightB, hl] at hr ⊢
    simp [hr]
theorem norest_put (h g : Hd) (hr : rightB h = true) (gr : rightB g = true) (hv : h.ver < 4294967296) (gv : g.ver < 4294967296) : decide (hputL (norest h) = hputL (norest g)) = sameB (norest h) (norest g) := by
  rw [Bool.eq_iff_iff, same_iff, decide_eq_true_eq]
  constructor
  · intro e
    refine put_inj (norest_right hr) (norest_right gr) ?_ ?_ ?_ ?_ e
    · unfold norest; split <;> exact hv
    · unfold norest; split <;> exact gv
    · intro hl; unfold norest at hl ⊢; split <;> simp_all
    · intro hl; unfold norest at hl ⊢; split <;> simp_all
  · intro e; rw [e]
theorem norest_hdv {w : World} {h : Hd} {d s t c : Value} (hv : HdV w h d s t c) : HdV w (norest h) d s t c := by
  unfold norest
  split
  · exact hv
  · exact ⟨hv.d, hv.s, hv.t, hv.c, hv.ver, hv.dl, hv.sl, hv.tl, hv.cl, hv.kind, by show _ ≤ (0 : Int) ∧ (0 : Int) ≤ _; decide⟩
theorem norest_v (h : Hd) (d s t c : Value) : hdV (norest h) d s t c = .agg #[.bool h.long, .bool h.phase, .int .i64 h.kind, .int .u32 (h.ver : Int), d, s, t, c, .int .i64 (if h.long then h.rest else 0)] := by
  unfold norest; split <;> simp_all [hdV]

set_option maxHeartbeats 8000000 in
set_option maxRecDepth 10000 in
theorem hapart_any {w : World} {h g : Hd} {d s t c d' s' t' c' : Value} (hT : Tabs w) (hv : HdV w h d s t c) (gv : HdV w g d' s' t' c') :
    Calls Tryd.prog 8 #[hdV h d s t c, hdV g d' s' t' c'] w fun e w' => e = .returned (.bool true) ∧ Below w.heap.size w w' := by
  have HT := Lib.hid hT
  have HV := Lib.hid hv
  have GV := Lib.hid gv
  have hgr := Lib.hid (fun X (hM : Mod (fun _ => False) w X) => great_any (hv.kept hM))
  have ggr := Lib.hid (fun X (hM : Mod (fun _ => False) w X) => great_any (gv.kept hM))
  have HR1 := Lib.hid (fun Z X (h0 : Mod (fun _ => False) w Z) (hM : Mod (fun _ => False) Z X) => (right_any (hv.kept (h0.trans hM))).mono fun _ _ (h : _ ∧ _) => (⟨h.1, hM.trans h.2⟩ : _ ∧ Mod (fun _ => False) Z _))
  have HR2 := Lib.hid (fun Z X (h0 : Mod (fun _ => False) w Z) (hM : Mod (fun _ => False) Z X) => (right_any (gv.kept (h0.trans hM))).mono fun _ _ (h : _ ∧ _) => (⟨h.1, hM.trans h.2⟩ : _ ∧ Mod (fun _ => False) Z _))
  have HS1 := Lib.hid (fun Z X (h0 : Mod (fun _ => False) w Z) (hM : Mod (fun _ => False) Z X) => (hsame_any ((norest_hdv hv).kept (h0.trans hM)) ((norest_hdv gv).kept (h0.trans hM))).mono fun _ _ (h : _ ∧ _) => (⟨h.1, hM.trans h.2⟩ : _ ∧ Mod (fun _ => False) Z _))
  have HP1 : Hid (∀ Z X, Mod (fun _ => False) w Z → Mod (fun _ => False) Z X → Calls Tryd.prog 15 #[hdV (norest h) d s t c] X fun e Y => ∃ a cp, e = .returned (.slice a (hputL (norest h)).length cp) ∧ Byts Y (.slice a (hputL (norest h)).length cp) (hputL (norest h)) ∧ Mod (fun _ => False) Z Y) := by
    intro Z X h0 hM
    refine (hput_any ((h0.trans hM).tabs HT.out (fun h => h)) ((norest_hdv hv).kept (h0.trans hM))).mono ?_
    rintro e Y ⟨v, rfl, ho, hY⟩
    obtain ⟨a, cp, rfl, _⟩ := byts_val ho.byts
    exact ⟨a, cp, rfl, ho.byts, hM.trans hY⟩
  have HP2 : Hid (∀ Z X v, Byts X v (hputL (norest h)) → Mod (fun _ => False) w Z → Mod (fun _ => False) Z X → Calls Tryd.prog 15 #[hdV (norest g) d' s' t' c'] X fun e Y => ∃ a cp, e = .returned (.slice a (hputL (norest g)).length cp) ∧ Byts Y (.slice a (hputL (norest g)).length cp) (hputL (norest g)) ∧ Byts Y v (hputL (norest h)) ∧ Mod (fun _ => False) Z Y) := by
    intro Z X v0 hb h0 hM
    refine (hput_any ((h0.trans hM).tabs HT.out (fun h => h)) ((norest_hdv gv).kept (h0.trans hM))).mono ?_
    rintro e Y ⟨v, rfl, ho, hY⟩
    obtain ⟨a, cp, rfl, _⟩ := byts_val ho.byts
    exact ⟨a, cp, rfl, ho.byts, byts_kept hb hY, hM.trans hY⟩
  have HSM : Hid (∀ Z X v v', Byts X v (hputL (norest h)) → Byts X v' (hputL (norest g)) → Mod (fun _ => False) Z X → Calls Tryd.prog 14 #[v, v'] X fun e Y => e = .returned (.bool (decide (hputL (norest h) = hputL (norest g)))) ∧ Mod (fun _ => False) Z Y) := by
    intro Z X v v' hb hb' hM
    exact (same_m hb hb').mono fun _ _ (h : _ ∧ _) => ⟨h.1, hM.trans h.2⟩
  have HEQ : Hid (rightB h = true → rightB g = true → decide (hputL (norest h) = hputL (norest g)) = sameB (norest h) (norest g)) := fun hr gr => norest_put h g hr gr hv.ver gv.ver
  obtain ⟨da, dc, rfl, _⟩ := byts_val hv.d
  obtain ⟨sa, sc, rfl, _⟩ := byts_val hv.s
  obtain ⟨ta, tc, rfl, _⟩ := byts_val hv.t
  obtain ⟨ca, cc, rfl, _⟩ := byts_val hv.c
  obtain ⟨da', dc', rfl, _⟩ := byts_val gv.d
  obtain ⟨sa', sc', rfl, _⟩ := byts_val gv.s
  obtain ⟨ta', tc', rfl, _⟩ := byts_val gv.t
  obtain ⟨ca', cc', rfl, _⟩ := byts_val gv.c
  rw [norest_v, norest_v] at HS1
  rw [norest_v] at HP1 HP2
  unfold hdV at hgr ggr HR1 HR2 ⊢
  clear hT hv gv HV GV
  generalize decide (hputL (norest h) = hputL (norest g)) = eB at *
  generalize sameB (norest h) (norest g) = sB at *
  generalize decide (600 < h.dst.length + h.src.length + h.tok.length + h.cut.length) = gh at *
  generalize decide (600 < g.dst.length + g.src.length + g.tok.length + g.cut.length) = gg at *
  generalize (hputL (norest h)).length = nl at *
  generalize (hputL (norest g)).length = nl' at *
  generalize rightB h = rB at *
  generalize rightB g = rB' at *
  generalize h.dst.length = nd at *
  generalize h.src.length = ns at *
  generalize h.tok.length = nt at *
  generalize h.cut.length = nc at *
  generalize h.long = lo at *
  generalize h.phase = ph at *
  generalize h.kind = ki at *
  generalize (h.ver : Int) = ve at *
  generalize h.rest = re at *
  generalize g.dst.length = nd' at *
  generalize g.src.length = ns' at *
  generalize g.tok.length = nt' at *
  generalize g.cut.length = nc' at *
  generalize g.long = lo' at *
  generalize g.phase = ph' at *
  generalize g.kind = ki' at *
  generalize (g.ver : Int) = ve' at *
  generalize g.rest = re' at *
  go_enter Tryd.func8, Tryd.ntmps8
  go_wp2_with fail
  have hM0 : Mod (fun _ => False) w _ := (((Mod.refl (fun _ => False) w).alloc (.cells #[.bool lo, .bool ph, .int .i64 ki, .int .u32 ve, .slice da nd dc, .slice sa ns sc, .slice ta nt tc, .slice ca nc cc, .int .i64 re] 25)).alloc (.cells #[.bool lo', .bool ph', .int .i64 ki', .int .u32 ve', .slice da' nd' dc', .slice sa' ns' sc', .slice ta' nt' tc', .slice ca' nc' cc', .int .i64 re'] 25))
  refine (alive_any _ (hM0.tabs HT.out (fun h => h))).mono ?_
  rintro e w1 ⟨rfl, hM1⟩
  have HB1 := hM1.blk ((Blk.new w _ _).alloc _) (fun h => h)
  have HB2 := hM1.blk (Blk.new (w.alloc _) _ _) (fun h => h)
  rw [show ∀ o, (w.alloc o).heap.size = w.heap.size + 1 from fun o => by simp] at HB2
  have hMw := Lib.hid (hM0.trans hM1)
  have HH1 := Lib.hid HB1
  have HH2 := Lib.hid HB2
  obtain ⟨c0, c1, c2, c3, c4, c5, c6, c7, c8, c9⟩ := hd_cells HB1
  obtain ⟨g0, g1, g2, g3, g4, g5, g6, g7, g8, g9⟩ := hd_cells HB2
  clear HB1 HB2 hM0 hM1
  go_wp2_with fail
  refine (hgr.out _ hMw.out).mono ?_
  rintro e w2 ⟨rfl, hM2⟩
  have hMw2 := Lib.hid (hMw.out.trans hM2)
  have HB1 := hM2.blk HH1.out (fun h => h)
  have HB2 := hM2.blk HH2.out (fun h => h)
  have HH1' := Lib.hid HB1
  have HH2' := Lib.hid HB2
  clear c0 c1 c2 c3 c4 c5 c6 c7 c8 c9 g0 g1 g2 g3 g4 g5 g6 g7 g8 g9 hM2
  obtain ⟨c0, c1, c2, c3, c4, c5, c6, c7, c8, c9⟩ := hd_cells HB1
  obtain ⟨g0, g1, g2, g3, g4, g5, g6, g7, g8, g9⟩ := hd_cells HB2
  clear HB1 HB2
  cases gh
  case true =>
    go_wp2_with fail
    go_ret
    exact ⟨rfl, hMw2.out.none_below⟩
  case false =>
    go_wp2_with fail
    refine (ggr.out _ hMw2.out).mono ?_
    rintro e w3 ⟨rfl, hM3⟩
    have hMw3 := Lib.hid (hMw2.out.trans hM3)
    have HB1 := hM3.blk HH1'.out (fun h => h)
    have HB2 := hM3.blk HH2'.out (fun h => h)
    clear c0 c1 c2 c3 c4 c5 c6 c7 c8 c9 g0 g1 g2 g3 g4 g5 g6 g7 g8 g9 hM3
    cases gg
    case true =>
      go_wp2_with fail
      go_ret
      exact ⟨rfl, hMw3.out.none_below⟩
    case false =>
      have HH3 := Lib.hid HB1
      have HG3 := Lib.hid HB2
      obtain ⟨c0, c1, c2, c3, c4, c5, c6, c7, c8, c9⟩ := hd_cells HB1
      obtain ⟨g0, g1, g2, g3, g4, g5, g6, g7, g8, g9⟩ := hd_cells HB2
      clear HB1 HB2
      go_wp2_with fail
      refine (HR1.out w3 _ hMw3.out (Mod.refl _ _)).mono ?_
      rintro e w4 ⟨rfl, hM4⟩
      have hMw4 := Lib.hid (hMw3.out.trans hM4)
      have HH4 := Lib.hid (hM4.blk HH3.out (fun h => h))
      have HG4 := Lib.hid (hM4.blk HG3.out (fun h => h))
      clear hM4 c0 c1 c2 c3 c4 c5 c6 c7 c8 c9 g0 g1 g2 g3 g4 g5 g6 g7 g8 g9
      cases rB
      case false =>
        go_wp2_with fail
        go_ret
        exact ⟨rfl, hMw4.out.none_below⟩
      case true =>
        obtain ⟨g0, g1, g2, g3, g4, g5, g6, g7, g8, g9⟩ := hd_cells HG4.out
        go_wp2_with fail
        refine (HR2.out w4 _ hMw4.out (Mod.refl _ _)).mono ?_
        rintro e w5 ⟨rfl, hM5⟩
        have hMw5 := Lib.hid (hMw4.out.trans hM5)
        have HH5 := Lib.hid (hM5.blk HH4.out (fun h => h))
        have HG5 := Lib.hid (hM5.blk HG4.out (fun h => h))
        clear hM5 g0 g1 g2 g3 g4 g5 g6 g7 g8 g9
        cases rB'
        case false =>
          go_wp2_with fail
          go_ret
          exact ⟨rfl, hMw5.out.none_below⟩
        case true =>
          obtain rfl := HEQ.out (by trivial) (by trivial)
          obtain ⟨c0, c1, c2, c3, c4, c5, c6, c7, c8, c9⟩ := hd_cells HH5.out
          obtain ⟨g0, g1, g2, g3, g4, g5, g6, g7, g8, g9⟩ := hd_cells HG5.out
          have f8 := HH5.out.free 8
          have k8 := HG5.out.free 8
          clear hgr ggr HR1 HR2 HEQ HH1 HH2 HH1' HH2' hMw hMw2 hMw3 hMw4 HH3 HG3 HH4 HG4
          cases lo <;> cases lo'
          · simp only [Bool.false_eq_true, if_false] at HP1 HP2 HS1
            have HA : Blk ((w5.setCell ⟨w.heap.size, 8, none⟩ (.int .i64 0)).setCell ⟨w.heap.size + 1, 8, none⟩ (.int .i64 0)) w.heap.size #[.bool false, .bool ph, .int .i64 ki, .int .u32 ve, .slice da nd dc, .slice sa ns sc, .slice ta nt tc, .slice ca nc cc, .int .i64 0] 25 := (Blk.setOther (Blk.set HH5.out 8 (.int .i64 0)) (a := ⟨w.heap.size + 1, 8, none⟩) (by simp) (.int .i64 0))
            have HBb : Blk ((w5.setCell ⟨w.heap.size, 8, none⟩ (.int .i64 0)).setCell ⟨w.heap.size + 1, 8, none⟩ (.int .i64 0)) (w.heap.size + 1) #[.bool false, .bool ph', .int .i64 ki', .int .u32 ve', .slice da' nd' dc', .slice sa' ns' sc', .slice ta' nt' tc', .slice ca' nc' cc', .int .i64 0] 25 := (Blk.set (Blk.setOther HG5.out (a := ⟨w.heap.size, 8, none⟩) (by simp) (.int .i64 0)) 8 (.int .i64 0))
            have HMz := Lib.hid (Mod.setCell (Mod.setCell hMw5.out (p := ⟨w.heap.size, 8, none⟩) (fun hlt => absurd hlt (Nat.lt_irrefl _)) (.int .i64 0)) (p := ⟨w.heap.size + 1, 8, none⟩) (fun hlt => absurd hlt (by simp)) (.int .i64 0))
            obtain ⟨wz, hwz⟩ : ∃ wz, wz = ((w5.setCell ⟨w.heap.size, 8, none⟩ (.int .i64 0)).setCell ⟨w.heap.size + 1, 8, none⟩ (.int .i64 0)) := ⟨_, rfl⟩
            rw [← hwz] at HA HBb HMz
            go_wp2_with fail
            try rw [← hwz]
            have hwz2 := hwz
            clear c0 c1 c2 c3 c4 c5 c6 c7 c8 c9 g0 g1 g2 g3 g4 g5 g6 g7 g8 g9 f8 k8 HH5 HG5 hMw5 hwz hwz2
            obtain ⟨c0, c1, c2, c3, c4, c5, c6, c7, c8, c9⟩ := hd_cells HA
            obtain ⟨g0, g1, g2, g3, g4, g5, g6, g7, g8, g9⟩ := hd_cells HBb
            clear HA HBb
            have hN0 : Mod (fun _ => False) wz wz := Mod.refl _ _
            have HSX : Hid (∀ X, Mod (fun _ => False) wz X → X.cell? ⟨w.heap.size, 0, none⟩ = some (.bool false) ∧ X.cell? ⟨w.heap.size, 1, none⟩ = some (.bool ph) ∧ X.cell? ⟨w.heap.size, 2, none⟩ = some (.int .i64 ki) ∧ X.cell? ⟨w.heap.size, 3, none⟩ = some (.int .u32 ve) ∧ X.cell? ⟨w.heap.size, 4, none⟩ = some (.slice da nd dc) ∧ X.cell? ⟨w.heap.size, 5, none⟩ = some (.slice sa ns sc) ∧ X.cell? ⟨w.heap.size, 6, none⟩ = some (.slice ta nt tc) ∧ X.cell? ⟨w.heap.size, 7, none⟩ = some (.slice ca nc cc) ∧ X.cell? ⟨w.heap.size, 8, none⟩ = some (.int .i64 0) ∧ X.cell? ⟨w.heap.size + 1, 0, none⟩ = some (.bool false) ∧ X.cell? ⟨w.heap.size + 1, 1, none⟩ = some (.bool ph') ∧ X.cell? ⟨w.heap.size + 1, 2, none⟩ = some (.int .i64 ki') ∧ X.cell? ⟨w.heap.size + 1, 3, none⟩ = some (.int .u32 ve') ∧ X.cell? ⟨w.heap.size + 1, 4, none⟩ = some (.slice da' nd' dc') ∧ X.cell? ⟨w.heap.size + 1, 5, none⟩ = some (.slice sa' ns' sc') ∧ X.cell? ⟨w.heap.size + 1, 6, none⟩ = some (.slice ta' nt' tc') ∧ X.cell? ⟨w.heap.size + 1, 7, none⟩ = some (.slice ca' nc' cc') ∧ X.cell? ⟨w.heap.size + 1, 8, none⟩ = some (.int .i64 0) ∧ Mod (fun _ => False) wz X) := fun X hX => ⟨hX.cellAt c0 (fun h => h), hX.cellAt c1 (fun h => h), hX.cellAt c2 (fun h => h), hX.cellAt c3 (fun h => h), hX.cellAt c4 (fun h => h), hX.cellAt c5 (fun h => h), hX.cellAt c6 (fun h => h), hX.cellAt c7 (fun h => h), hX.cellAt c8 (fun h => h), hX.cellAt g0 (fun h => h), hX.cellAt g1 (fun h => h), hX.cellAt g2 (fun h => h), hX.cellAt g3 (fun h => h), hX.cellAt g4 (fun h => h), hX.cellAt g5 (fun h => h), hX.cellAt g6 (fun h => h), hX.cellAt g7 (fun h => h), hX.cellAt g8 (fun h => h), hX⟩
            clear c0 c1 c2 c3 c4 c5 c6 c7 c8 c9 g0 g1 g2 g3 g4 g5 g6 g7 g8 g9
            go_region_held3 (fun X => X.cell? ⟨w.heap.size, 0, none⟩ = some (.bool false) ∧ X.cell? ⟨w.heap.size, 1, none⟩ = some (.bool ph) ∧ X.cell? ⟨w.heap.size, 2, none⟩ = some (.int .i64 ki) ∧ X.cell? ⟨w.heap.size, 3, none⟩ = some (.int .u32 ve) ∧ X.cell? ⟨w.heap.size, 4, none⟩ = some (.slice da nd dc) ∧ X.cell? ⟨w.heap.size, 5, none⟩ = some (.slice sa ns sc) ∧ X.cell? ⟨w.heap.size, 6, none⟩ = some (.slice ta nt tc) ∧ X.cell? ⟨w.heap.size, 7, none⟩ = some (.slice ca nc cc) ∧ X.cell? ⟨w.heap.size, 8, none⟩ = some (.int .i64 0) ∧ X.cell? ⟨w.heap.size + 1, 0, none⟩ = some (.bool false) ∧ X.cell? ⟨w.heap.size + 1, 1, none⟩ = some (.bool ph') ∧ X.cell? ⟨w.heap.size + 1, 2, none⟩ = some (.int .i64 ki') ∧ X.cell? ⟨w.heap.size + 1, 3, none⟩ = some (.int .u32 ve') ∧ X.cell? ⟨w.heap.size + 1, 4, none⟩ = some (.slice da' nd' dc') ∧ X.cell? ⟨w.heap.size + 1, 5, none⟩ = some (.slice sa' ns' sc') ∧ X.cell? ⟨w.heap.size + 1, 6, none⟩ = some (.slice ta' nt' tc') ∧ X.cell? ⟨w.heap.size + 1, 7, none⟩ = some (.slice ca' nc' cc') ∧ X.cell? ⟨w.heap.size + 1, 8, none⟩ = some (.int .i64 0) ∧ Mod (fun _ => False) wz X) (first | assumption | (refine HSX.out _ ?_; first | assumption | exact hN0.drew | (refine Mod.drew ?_; assumption)) | (go_split_ands; assumption))
              (first
                | (go_at_call 15; (with_reducible refine (HP1.out wz _ HMz.out ?_).mono ?_); (first | assumption | exact hN0.drew | (go_split_ands; assumption)); rintro e Y3 ⟨a3, cp3, rfl, hb3, hY3⟩)
                | (go_at_call 15; (with_reducible refine (HP2.out wz _ _ hb3 HMz.out ?_).mono ?_); (first | assumption | exact hN0.drew | (go_split_ands; assumption)); rintro e Y4 ⟨a4, cp4, rfl, hb4, hb34, hY4⟩)
                | (go_at_call 14; (with_reducible refine (HSM.out wz _ _ _ hb34 hb4 ?_).mono ?_); (first | assumption | exact hN0.drew | (go_split_ands; assumption)); rintro e Y5 ⟨rfl, hY5⟩)
                | (go_at_call 17; (with_reducible refine (HS1.out wz _ HMz.out ?_).mono ?_); (first | assumption | exact hN0.drew | (go_split_ands; assumption)); rintro e Y6 ⟨rfl, hY6⟩)
                | fail)
            all_goals
              go_wp2_with fail
              go_ret
              exact ⟨rfl, (HMz.out.trans hY6).none_below⟩
          · simp only [Bool.false_eq_true, if_false, if_true] at HP1 HP2 HS1
            have HA : Blk (w5.setCell ⟨w.heap.size, 8, none⟩ (.int .i64 0)) w.heap.size #[.bool false, .bool ph, .int .i64 ki, .int .u32 ve, .slice da nd dc, .slice sa ns sc, .slice ta nt tc, .slice ca nc cc, .int .i64 0] 25 := (Blk.set HH5.out 8 (.int .i64 0))
            have HBb : Blk (w5.setCell ⟨w.heap.size, 8, none⟩ (.int .i64 0)) (w.heap.size + 1) #[.bool true, .bool ph', .int .i64 ki', .int .u32 ve', .slice da' nd' dc', .slice sa' ns' sc', .slice ta' nt' tc', .slice ca' nc' cc', .int .i64 re'] 25 := (Blk.setOther HG5.out (a := ⟨w.heap.size, 8, none⟩) (by simp) (.int .i64 0))
            have HMz := Lib.hid (Mod.setCell hMw5.out (p := ⟨w.heap.size, 8, none⟩) (fun hlt => absurd hlt (Nat.lt_irrefl _)) (.int .i64 0))
            obtain ⟨wz, hwz⟩ : ∃ wz, wz = (w5.setCell ⟨w.heap.size, 8, none⟩ (.int .i64 0)) := ⟨_, rfl⟩
            rw [← hwz] at HA HBb HMz
            go_wp2_with fail
            try rw [← hwz]
            have hwz2 := hwz
            clear c0 c1 c2 c3 c4 c5 c6 c7 c8 c9 g0 g1 g2 g3 g4 g5 g6 g7 g8 g9 f8 k8 HH5 HG5 hMw5 hwz hwz2
            obtain ⟨c0, c1, c2, c3, c4, c5, c6, c7, c8, c9⟩ := hd_cells HA
            obtain ⟨g0, g1, g2, g3, g4, g5, g6, g7, g8, g9⟩ := hd_cells HBb
            clear HA HBb
            have hN0 : Mod (fun _ => False) wz wz := Mod.refl _ _
            have HSX : Hid (∀ X, Mod (fun _ => False) wz X → X.cell? ⟨w.heap.size, 0, none⟩ = some (.bool false) ∧ X.cell? ⟨w.heap.size, 1, none⟩ = some (.bool ph) ∧ X.cell? ⟨w.heap.size, 2, none⟩ = some (.int .i64 ki) ∧ X.cell? ⟨w.heap.size, 3, none⟩ = some (.int .u32 ve) ∧ X.cell? ⟨w.heap.size, 4, none⟩ = some (.slice da nd dc) ∧ X.cell? ⟨w.heap.size, 5, none⟩ = some (.slice sa ns sc) ∧ X.cell? ⟨w.heap.size, 6, none⟩ = some (.slice ta nt tc) ∧ X.cell? ⟨w.heap.size, 7, none⟩ = some (.slice ca nc cc) ∧ X.cell? ⟨w.heap.size, 8, none⟩ = some (.int .i64 0) ∧ X.cell? ⟨w.heap.size + 1, 0, none⟩ = some (.bool true) ∧ X.cell? ⟨w.heap.size + 1, 1, none⟩ = some (.bool ph') ∧ X.cell? ⟨w.heap.size + 1, 2, none⟩ = some (.int .i64 ki') ∧ X.cell? ⟨w.heap.size + 1, 3, none⟩ = some (.int .u32 ve') ∧ X.cell? ⟨w.heap.size + 1, 4, none⟩ = some (.slice da' nd' dc') ∧ X.cell? ⟨w.heap.size + 1, 5, none⟩ = some (.slice sa' ns' sc') ∧ X.cell? ⟨w.heap.size + 1, 6, none⟩ = some (.slice ta' nt' tc') ∧ X.cell? ⟨w.heap.size + 1, 7, none⟩ = some (.slice ca' nc' cc') ∧ X.cell? ⟨w.heap.size + 1, 8, none⟩ = some (.int .i64 re') ∧ Mod (fun _ => False) wz X) := fun X hX => ⟨hX.cellAt c0 (fun h => h), hX.cellAt c1 (fun h => h), hX.cellAt c2 (fun h => h), hX.cellAt c3 (fun h => h), hX.cellAt c4 (fun h => h), hX.cellAt c5 (fun h => h), hX.cellAt c6 (fun h => h), hX.cellAt c7 (fun h => h), hX.cellAt c8 (fun h => h), hX.cellAt g0 (fun h => h), hX.cellAt g1 (fun h => h), hX.cellAt g2 (fun h => h), hX.cellAt g3 (fun h => h), hX.cellAt g4 (fun h => h), hX.cellAt g5 (fun h => h), hX.cellAt g6 (fun h => h), hX.cellAt g7 (fun h => h), hX.cellAt g8 (fun h => h), hX⟩
            clear c0 c1 c2 c3 c4 c5 c6 c7 c8 c9 g0 g1 g2 g3 g4 g5 g6 g7 g8 g9
            go_region_held3 (fun X => X.cell? ⟨w.heap.size, 0, none⟩ = some (.bool false) ∧ X.cell? ⟨w.heap.size, 1, none⟩ = some (.bool ph) ∧ X.cell? ⟨w.heap.size, 2, none⟩ = some (.int .i64 ki) ∧ X.cell? ⟨w.heap.size, 3, none⟩ = some (.int .u32 ve) ∧ X.cell? ⟨w.heap.size, 4, none⟩ = some (.slice da nd dc) ∧ X.cell? ⟨w.heap.size, 5, none⟩ = some (.slice sa ns sc) ∧ X.cell? ⟨w.heap.size, 6, none⟩ = some (.slice ta nt tc) ∧ X.cell? ⟨w.heap.size, 7, none⟩ = some (.slice ca nc cc) ∧ X.cell? ⟨w.heap.size, 8, none⟩ = some (.int .i64 0) ∧ X.cell? ⟨w.heap.size + 1, 0, none⟩ = some (.bool true) ∧ X.cell? ⟨w.heap.size + 1, 1, none⟩ = some (.bool ph') ∧ X.cell? ⟨w.heap.size + 1, 2, none⟩ = some (.int .i64 ki') ∧ X.cell? ⟨w.heap.size + 1, 3, none⟩ = some (.int .u32 ve') ∧ X.cell? ⟨w.heap.size + 1, 4, none⟩ = some (.slice da' nd' dc') ∧ X.cell? ⟨w.heap.size + 1, 5, none⟩ = some (.slice sa' ns' sc') ∧ X.cell? ⟨w.heap.size + 1, 6, none⟩ = some (.slice ta' nt' tc') ∧ X.cell? ⟨w.heap.size + 1, 7, none⟩ = some (.slice ca' nc' cc') ∧ X.cell? ⟨w.heap.size + 1, 8, none⟩ = some (.int .i64 re') ∧ Mod (fun _ => False) wz X) (first | assumption | (refine HSX.out _ ?_; first | assumption | exact hN0.drew | (refine Mod.drew ?_; assumption)) | (go_split_ands; assumption))
              (first
                | (go_at_call 15; (with_reducible refine (HP1.out wz _ HMz.out ?_).mono ?_); (first | assumption | exact hN0.drew | (go_split_ands; assumption)); rintro e Y3 ⟨a3, cp3, rfl, hb3, hY3⟩)
                | (go_at_call 15; (with_reducible refine (HP2.out wz _ _ hb3 HMz.out ?_).mono ?_); (first | assumption | exact hN0.drew | (go_split_ands; assumption)); rintro e Y4 ⟨a4, cp4, rfl, hb4, hb34, hY4⟩)
                | (go_at_call 14; (with_reducible refine (HSM.out wz _ _ _ hb34 hb4 ?_).mono ?_); (first | assumption | exact hN0.drew | (go_split_ands; assumption)); rintro e Y5 ⟨rfl, hY5⟩)
                | (go_at_call 17; (with_reducible refine (HS1.out wz _ HMz.out ?_).mono ?_); (first | assumption | exact hN0.drew | (go_split_ands; assumption)); rintro e Y6 ⟨rfl, hY6⟩)
                | fail)
            all_goals
              go_wp2_with fail
              go_ret
              exact ⟨rfl, (HMz.out.trans hY6).none_below⟩
          · simp only [Bool.false_eq_true, if_false, if_true] at HP1 HP2 HS1
            have HA : Blk (w5.setCell ⟨w.heap.size + 1, 8, none⟩ (.int .i64 0)) w.heap.size #[.bool true, .bool ph, .int .i64 ki, .int .u32 ve, .slice da nd dc, .slice sa ns sc, .slice ta nt tc, .slice ca nc cc, .int .i64 re] 25 := (Blk.setOther HH5.out (a := ⟨w.heap.size + 1, 8, none⟩) (by simp) (.int .i64 0))
            have HBb : Blk (w5.setCell ⟨w.heap.size + 1, 8, none⟩ (.int .i64 0)) (w.heap.size + 1) #[.bool false, .bool ph', .int .i64 ki', .int .u32 ve', .slice da' nd' dc', .slice sa' ns' sc', .slice ta' nt' tc', .slice ca' nc' cc', .int .i64 0] 25 := (Blk.set HG5.out 8 (.int .i64 0))
            have HMz := Lib.hid (Mod.setCell hMw5.out (p := ⟨w.heap.size + 1, 8, none⟩) (fun hlt => absurd hlt (by simp)) (.int .i64 0))
            obtain ⟨wz, hwz⟩ : ∃ wz, wz = (w5.setCell ⟨w.heap.size + 1, 8, none⟩ (.int .i64 0)) := ⟨_, rfl⟩
            rw [← hwz] at HA HBb HMz
            go_wp2_with fail
            try rw [← hwz]
            have hwz2 := hwz
            clear c0 c1 c2 c3 c4 c5 c6 c7 c8 c9 g0 g1 g2 g3 g4 g5 g6 g7 g8 g9 f8 k8 HH5 HG5 hMw5 hwz hwz2
            obtain ⟨c0, c1, c2, c3, c4, c5, c6, c7, c8, c9⟩ := hd_cells HA
            obtain ⟨g0, g1, g2, g3, g4, g5, g6, g7, g8, g9⟩ := hd_cells HBb
            clear HA HBb
            have hN0 : Mod (fun _ => False) wz wz := Mod.refl _ _
            have HSX : Hid (∀ X, Mod (fun _ => False) wz X → X.cell? ⟨w.heap.size, 0, none⟩ = some (.bool true) ∧ X.cell? ⟨w.heap.size, 1, none⟩ = some (.bool ph) ∧ X.cell? ⟨w.heap.size, 2, none⟩ = some (.int .i64 ki) ∧ X.cell? ⟨w.heap.size, 3, none⟩ = some (.int .u32 ve) ∧ X.cell? ⟨w.heap.size, 4, none⟩ = some (.slice da nd dc) ∧ X.cell? ⟨w.heap.size, 5, none⟩ = some (.slice sa ns sc) ∧ X.cell? ⟨w.heap.size, 6, none⟩ = some (.slice ta nt tc) ∧ X.cell? ⟨w.heap.size, 7, none⟩ = some (.slice ca nc cc) ∧ X.cell? ⟨w.heap.size, 8, none⟩ = some (.int .i64 re) ∧ X.cell? ⟨w.heap.size + 1, 0, none⟩ = some (.bool false) ∧ X.cell? ⟨w.heap.size + 1, 1, none⟩ = some (.bool ph') ∧ X.cell? ⟨w.heap.size + 1, 2, none⟩ = some (.int .i64 ki') ∧ X.cell? ⟨w.heap.size + 1, 3, none⟩ = some (.int .u32 ve') ∧ X.cell? ⟨w.heap.size + 1, 4, none⟩ = some (.slice da' nd' dc') ∧ X.cell? ⟨w.heap.size + 1, 5, none⟩ = some (.slice sa' ns' sc') ∧ X.cell? ⟨w.heap.size + 1, 6, none⟩ = some (.slice ta' nt' tc') ∧ X.cell? ⟨w.heap.size + 1, 7, none⟩ = some (.slice ca' nc' cc') ∧ X.cell? ⟨w.heap.size + 1, 8, none⟩ = some (.int .i64 0) ∧ Mod (fun _ => False) wz X) := fun X hX => ⟨hX.cellAt c0 (fun h => h), hX.cellAt c1 (fun h => h), hX.cellAt c2 (fun h => h), hX.cellAt c3 (fun h => h), hX.cellAt c4 (fun h => h), hX.cellAt c5 (fun h => h), hX.cellAt c6 (fun h => h), hX.cellAt c7 (fun h => h), hX.cellAt c8 (fun h => h), hX.cellAt g0 (fun h => h), hX.cellAt g1 (fun h => h), hX.cellAt g2 (fun h => h), hX.cellAt g3 (fun h => h), hX.cellAt g4 (fun h => h), hX.cellAt g5 (fun h => h), hX.cellAt g6 (fun h => h), hX.cellAt g7 (fun h => h), hX.cellAt g8 (fun h => h), hX⟩
            clear c0 c1 c2 c3 c4 c5 c6 c7 c8 c9 g0 g1 g2 g3 g4 g5 g6 g7 g8 g9
            go_region_held3 (fun X => X.cell? ⟨w.heap.size, 0, none⟩ = some (.bool true) ∧ X.cell? ⟨w.heap.size, 1, none⟩ = some (.bool ph) ∧ X.cell? ⟨w.heap.size, 2, none⟩ = some (.int .i64 ki) ∧ X.cell? ⟨w.heap.size, 3, none⟩ = some (.int .u32 ve) ∧ X.cell? ⟨w.heap.size, 4, none⟩ = some (.slice da nd dc) ∧ X.cell? ⟨w.heap.size, 5, none⟩ = some (.slice sa ns sc) ∧ X.cell? ⟨w.heap.size, 6, none⟩ = some (.slice ta nt tc) ∧ X.cell? ⟨w.heap.size, 7, none⟩ = some (.slice ca nc cc) ∧ X.cell? ⟨w.heap.size, 8, none⟩ = some (.int .i64 re) ∧ X.cell? ⟨w.heap.size + 1, 0, none⟩ = some (.bool false) ∧ X.cell? ⟨w.heap.size + 1, 1, none⟩ = some (.bool ph') ∧ X.cell? ⟨w.heap.size + 1, 2, none⟩ = some (.int .i64 ki') ∧ X.cell? ⟨w.heap.size + 1, 3, none⟩ = some (.int .u32 ve') ∧ X.cell? ⟨w.heap.size + 1, 4, none⟩ = some (.slice da' nd' dc') ∧ X.cell? ⟨w.heap.size + 1, 5, none⟩ = some (.slice sa' ns' sc') ∧ X.cell? ⟨w.heap.size + 1, 6, none⟩ = some (.slice ta' nt' tc') ∧ X.cell? ⟨w.heap.size + 1, 7, none⟩ = some (.slice ca' nc' cc') ∧ X.cell? ⟨w.heap.size + 1, 8, none⟩ = some (.int .i64 0) ∧ Mod (fun _ => False) wz X) (first | assumption | (refine HSX.out _ ?_; first | assumption | exact hN0.drew | (refine Mod.drew ?_; assumption)) | (go_split_ands; assumption))
              (first
                | (go_at_call 15; (with_reducible refine (HP1.out wz _ HMz.out ?_).mono ?_); (first | assumption | exact hN0.drew | (go_split_ands; assumption)); rintro e Y3 ⟨a3, cp3, rfl, hb3, hY3⟩)
                | (go_at_call 15; (with_reducible refine (HP2.out wz _ _ hb3 HMz.out ?_).mono ?_); (first | assumption | exact hN0.drew | (go_split_ands; assumption)); rintro e Y4 ⟨a4, cp4, rfl, hb4, hb34, hY4⟩)
                | (go_at_call 14; (with_reducible refine (HSM.out wz _ _ _ hb34 hb4 ?_).mono ?_); (first | assumption | exact hN0.drew | (go_split_ands; assumption)); rintro e Y5 ⟨rfl, hY5⟩)
                | (go_at_call 17; (with_reducible refine (HS1.out wz _ HMz.out ?_).mono ?_); (first | assumption | exact hN0.drew | (go_split_ands; assumption)); rintro e Y6 ⟨rfl, hY6⟩)
                | fail)
            all_goals
              go_wp2_with fail
              go_ret
              exact ⟨rfl, (HMz.out.trans hY6).none_below⟩
          · simp only [if_true] at HP1 HP2 HS1
            have HA : Blk w5 w.heap.size #[.bool true, .bool ph, .int .i64 ki, .int .u32 ve, .slice da nd dc, .slice sa ns sc, .slice ta nt tc, .slice ca nc cc, .int .i64 re] 25 := HH5.out
            have HBb : Blk w5 (w.heap.size + 1) #[.bool true, .bool ph', .int .i64 ki', .int .u32 ve', .slice da' nd' dc', .slice sa' ns' sc', .slice ta' nt' tc', .slice ca' nc' cc', .int .i64 re'] 25 := HG5.out
            have HMz := Lib.hid hMw5.out
            go_wp2_with fail
            clear c0 c1 c2 c3 c4 c5 c6 c7 c8 c9 g0 g1 g2 g3 g4 g5 g6 g7 g8 g9 f8 k8 HH5 HG5 hMw5 
            obtain ⟨c0, c1, c2, c3, c4, c5, c6, c7, c8, c9⟩ := hd_cells HA
            obtain ⟨g0, g1, g2, g3, g4, g5, g6, g7, g8, g9⟩ := hd_cells HBb
            clear HA HBb
            have hN0 : Mod (fun _ => False) w5 w5 := Mod.refl _ _
            have HSX : Hid (∀ X, Mod (fun _ => False) w5 X → X.cell? ⟨w.heap.size, 0, none⟩ = some (.bool true) ∧ X.cell? ⟨w.heap.size, 1, none⟩ = some (.bool ph) ∧ X.cell? ⟨w.heap.size, 2, none⟩ = some (.int .i64 ki) ∧ X.cell? ⟨w.heap.size, 3, none⟩ = some (.int .u32 ve) ∧ X.cell? ⟨w.heap.size, 4, none⟩ = some (.slice da nd dc) ∧ X.cell? ⟨w.heap.size, 5, none⟩ = some (.slice sa ns sc) ∧ X.cell? ⟨w.heap.size, 6, none⟩ = some (.slice ta nt tc) ∧ X.cell? ⟨w.heap.size, 7, none⟩ = some (.slice ca nc cc) ∧ X.cell? ⟨w.heap.size, 8, none⟩ = some (.int .i64 re) ∧ X.cell? ⟨w.heap.size + 1, 0, none⟩ = some (.bool true) ∧ X.cell? ⟨w.heap.size + 1, 1, none⟩ = some (.bool ph') ∧ X.cell? ⟨w.heap.size + 1, 2, none⟩ = some (.int .i64 ki') ∧ X.cell? ⟨w.heap.size + 1, 3, none⟩ = some (.int .u32 ve') ∧ X.cell? ⟨w.heap.size + 1, 4, none⟩ = some (.slice da' nd' dc') ∧ X.cell? ⟨w.heap.size + 1, 5, none⟩ = some (.slice sa' ns' sc') ∧ X.cell? ⟨w.heap.size + 1, 6, none⟩ = some (.slice ta' nt' tc') ∧ X.cell? ⟨w.heap.size + 1, 7, none⟩ = some (.slice ca' nc' cc') ∧ X.cell? ⟨w.heap.size + 1, 8, none⟩ = some (.int .i64 re') ∧ Mod (fun _ => False) w5 X) := fun X hX => ⟨hX.cellAt c0 (fun h => h), hX.cellAt c1 (fun h => h), hX.cellAt c2 (fun h => h), hX.cellAt c3 (fun h => h), hX.cellAt c4 (fun h => h), hX.cellAt c5 (fun h => h), hX.cellAt c6 (fun h => h), hX.cellAt c7 (fun h => h), hX.cellAt c8 (fun h => h), hX.cellAt g0 (fun h => h), hX.cellAt g1 (fun h => h), hX.cellAt g2 (fun h => h), hX.cellAt g3 (fun h => h), hX.cellAt g4 (fun h => h), hX.cellAt g5 (fun h => h), hX.cellAt g6 (fun h => h), hX.cellAt g7 (fun h => h), hX.cellAt g8 (fun h => h), hX⟩
            clear c0 c1 c2 c3 c4 c5 c6 c7 c8 c9 g0 g1 g2 g3 g4 g5 g6 g7 g8 g9
            go_region_held3 (fun X => X.cell? ⟨w.heap.size, 0, none⟩ = some (.bool true) ∧ X.cell? ⟨w.heap.size, 1, none⟩ = some (.bool ph) ∧ X.cell? ⟨w.heap.size, 2, none⟩ = some (.int .i64 ki) ∧ X.cell? ⟨w.heap.size, 3, none⟩ = some (.int .u32 ve) ∧ X.cell? ⟨w.heap.size, 4, none⟩ = some (.slice da nd dc) ∧ X.cell? ⟨w.heap.size, 5, none⟩ = some (.slice sa ns sc) ∧ X.cell? ⟨w.heap.size, 6, none⟩ = some (.slice ta nt tc) ∧ X.cell? ⟨w.heap.size, 7, none⟩ = some (.slice ca nc cc) ∧ X.cell? ⟨w.heap.size, 8, none⟩ = some (.int .i64 re) ∧ X.cell? ⟨w.heap.size + 1, 0, none⟩ = some (.bool true) ∧ X.cell? ⟨w.heap.size + 1, 1, none⟩ = some (.bool ph') ∧ X.cell? ⟨w.heap.size + 1, 2, none⟩ = some (.int .i64 ki') ∧ X.cell? ⟨w.heap.size + 1, 3, none⟩ = some (.int .u32 ve') ∧ X.cell? ⟨w.heap.size + 1, 4, none⟩ = some (.slice da' nd' dc') ∧ X.cell? ⟨w.heap.size + 1, 5, none⟩ = some (.slice sa' ns' sc') ∧ X.cell? ⟨w.heap.size + 1, 6, none⟩ = some (.slice ta' nt' tc') ∧ X.cell? ⟨w.heap.size + 1, 7, none⟩ = some (.slice ca' nc' cc') ∧ X.cell? ⟨w.heap.size + 1, 8, none⟩ = some (.int .i64 re') ∧ Mod (fun _ => False) w5 X) (first | assumption | (refine HSX.out _ ?_; first | assumption | exact hN0.drew | (refine Mod.drew ?_; assumption)) | (go_split_ands; assumption))
              (first
                | (go_at_call 15; (with_reducible refine (HP1.out w5 _ HMz.out ?_).mono ?_); (first | assumption | exact hN0.drew | (go_split_ands; assumption)); rintro e Y3 ⟨a3, cp3, rfl, hb3, hY3⟩)
                | (go_at_call 15; (with_reducible refine (HP2.out w5 _ _ hb3 HMz.out ?_).mono ?_); (first | assumption | exact hN0.drew | (go_split_ands; assumption)); rintro e Y4 ⟨a4, cp4, rfl, hb4, hb34, hY4⟩)
                | (go_at_call 14; (with_reducible refine (HSM.out w5 _ _ _ hb34 hb4 ?_).mono ?_); (first | assumption | exact hN0.drew | (go_split_ands; assumption)); rintro e Y5 ⟨rfl, hY5⟩)
                | (go_at_call 17; (with_reducible refine (HS1.out w5 _ HMz.out ?_).mono ?_); (first | assumption | exact hN0.drew | (go_split_ands; assumption)); rintro e Y6 ⟨rfl, hY6⟩)
                | fail)
            all_goals
              go_wp2_with fail
              go_ret
              exact ⟨rfl, (HMz.out.trans hY6).none_below⟩
end Go.Proofs.YtolbeamphmoimaaDoor
