/- The walk of the law that what stands behind a long packet isn't of it. -/
import Derived.Test.YtolbeamphmoimaaDoorHeA
import Derived.Deep.RegionHeld3
import Derived.IntWalk
import Derived.Deep.DeepCutAuto
namespace Go.Proofs.YtolbeamphmoimaaDoor
open Go.RowKit

set_option maxHeartbeats 8000000 in
set_option maxRecDepth 10000 in
theorem hrest_any {w : World} {h : Hd} {d s t c vb : Value} {lb : List UInt8} (hT : Tabs w) (hv : HdV w h d s t c) (hb : Byts w vb lb) (hlb : (lb.length : Int) ≤ 140737488355328) :
    Calls Tryd.prog 9 #[hdV h d s t c, vb] w fun e w' => e = .returned (.bool true) ∧ Below w.heap.size w w' := by
  have HT := Lib.hid hT
  have HLB := Lib.hid hlb
  have hgr := Lib.hid (fun X (hM : Mod (fun _ => False) w X) => great_any (hv.kept hM))
  have HR1 := Lib.hid (fun X (hM : Mod (fun _ => False) w X) => (right_any (hv.kept hM)).mono fun _ _ (h : _ ∧ _) => (⟨h.1, hM.trans h.2, h.2⟩ : _ ∧ Mod (fun _ => False) w _ ∧ Mod (fun _ => False) X _))
  have HP1 := Lib.hid (call_put hT hv)
  obtain ⟨da, dc, rfl, _⟩ := byts_val hv.d
  obtain ⟨sa, sc, rfl, _⟩ := byts_val hv.s
  obtain ⟨ta, tc, rfl, _⟩ := byts_val hv.t
  obtain ⟨ca, cc, rfl, _⟩ := byts_val hv.c
  obtain ⟨ba, bc, rfl, _⟩ := byts_val hb
  have HPL : Hid (rightB h = true → h.long = true → (hputL h).length ≤ 300 ∧ 0 ≤ h.rest ∧ h.rest ≤ 1200) := fun hr _ => ⟨put_len hr, by have := (right_len hr).2.2.2.2; omega, by have := (right_len hr).2.2.2.2; omega⟩
  obtain ⟨L, hL⟩ : ∃ L, L = hputL h := ⟨_, rfl⟩
  have HPA : Hid (rightB h = true → h.long = true → ∀ X v l2, (l2 = L ++ List.replicate h.rest.toNat 0 ∨ l2 = (L ++ List.replicate h.rest.toNat 0) ++ lb) → (l2.length : Int) ≤ 5000 → Byts X v l2 → Calls Tryd.prog 19 #[v] X fun x Y => ∃ da dc sa sc ta tc ca cc, x = .returned (.tuple #[.agg #[.bool h.long, .bool h.phase, .int .i64 h.kind, .int .u32 (h.ver : Int), .slice da h.dst.length dc, .slice sa h.src.length sc, .slice ta h.tok.length tc, .slice ca h.cut.length cc, .int .i64 h.rest], .int .i64 (L.length : Int), .int .i64 0]) ∧ HdV Y h (.slice da h.dst.length dc) (.slice sa h.src.length sc) (.slice ta h.tok.length tc) (.slice ca h.cut.length cc) ∧ Mod (fun _ => False) X Y ∧ HdO Y X.heap.size h (.slice da h.dst.length dc) (.slice sa h.src.length sc) (.slice ta h.tok.length tc) (.slice ca h.cut.length cc)) := by
    intro hr hl X v l2 h2 h5 hX
    obtain ⟨p1, p2⟩ := parse_again_long hr hl hv.ver lb
    rw [← hL] at p1 p2
    refine parse_is hX h5 ?_
    rcases h2 with rfl | rfl
    · exact p1
    · exact p2
  have HSM : Hid (∀ X da dc sa sc ta tc ca cc da' dc' sa' sc' ta' tc' ca' cc', HdV X h (.slice da h.dst.length dc) (.slice sa h.src.length sc) (.slice ta h.tok.length tc) (.slice ca h.cut.length cc) → HdV X h (.slice da' h.dst.length dc') (.slice sa' h.src.length sc') (.slice ta' h.tok.length tc') (.slice ca' h.cut.length cc') →
      Calls Tryd.prog 17 #[.agg #[.bool h.long, .bool h.phase, .int .i64 h.kind, .int .u32 (h.ver : Int), .slice da h.dst.length dc, .slice sa h.src.length sc, .slice ta h.tok.length tc, .slice ca h.cut.length cc, .int .i64 h.rest], .agg #[.bool h.long, .bool h.phase, .int .i64 h.kind, .int .u32 (h.ver : Int), .slice da' h.dst.length dc', .slice sa' h.src.length sc', .slice ta' h.tok.length tc', .slice ca' h.cut.length cc', .int .i64 h.rest]] X fun e Y => e = .returned (.bool true) ∧ Mod (fun _ => False) X Y) := by
    intro X da dc sa sc ta tc ca cc da' dc' sa' sc' ta' tc' ca' cc' h1 h2
    exact call_same h1 h2
  have HBB := Lib.hid hb
  rw [← hL] at HP1 HPL
  unfold hdV at hgr HR1 HP1 ⊢
  clear hT hv hb hL
  generalize decide (600 < h.dst.length + h.src.length + h.tok.length + h.cut.length) = gh at *
  generalize rightB h = rB at *
  generalize h.dst.length = nd at *
  generalize h.src.length = ns at *
  generalize h.tok.length = nt at *
  generalize h.cut.length = nc at *
  generalize h.long = lo at *
  generalize h.phase = ph at *
  generalize h.kind = ki at *
  generalize (h.ver : Int) = ve at *
  generalize h.rest = re at *
  obtain ⟨nb, hnb⟩ : ∃ nb, nb = lb.length := ⟨_, rfl⟩
  rw [← hnb] at hlb ⊢
  have HNB := Lib.hid hnb
  have HBB' : Hid (Byts w (.slice ba nb bc) lb) := by show Byts _ _ _; rw [hnb]; exact HBB.out
  clear hnb HBB HLB
  go_enter Tryd.func9, Tryd.ntmps9
  go_wp2_with fail
  have hM0 : Mod (fun _ => False) w _ := ((Mod.refl (fun _ => False) w).alloc (.cells #[.bool lo, .bool ph, .int .i64 ki, .int .u32 ve, .slice da nd dc, .slice sa ns sc, .slice ta nt tc, .slice ca nc cc, .int .i64 re] 25))
  refine (alive_any _ (hM0.tabs HT.out (fun h => h))).mono ?_
  rintro e w1 ⟨rfl, hM1⟩
  have HB1 := hM1.blk (Blk.new w _ _) (fun h => h)
  have hMw := Lib.hid (hM0.trans hM1)
  have HH1 := Lib.hid HB1
  obtain ⟨c0, c1, c2, c3, c4, c5, c6, c7, c8, c9⟩ := hd_cells HB1
  clear HB1 hM0 hM1
  go_wp2_with fail
  refine (hgr.out _ hMw.out).mono ?_
  rintro e w2 ⟨rfl, hM2⟩
  have hMw2 := Lib.hid (hMw.out.trans hM2)
  have HB2 := hM2.blk HH1.out (fun h => h)
  have HH2 := Lib.hid HB2
  clear c0 c1 c2 c3 c4 c5 c6 c7 c8 c9 hM2
  obtain ⟨c0, c1, c2, c3, c4, c5, c6, c7, c8, c9⟩ := hd_cells HB2
  clear HB2
  cases gh
  case true =>
    go_wp2_with fail
    go_ret
    exact ⟨rfl, hMw2.out.none_below⟩
  case false =>
    by_cases h100 : (100 : Int) < nb
    · go_wp2_with fail
      go_ret
      exact ⟨rfl, hMw2.out.none_below⟩
    · have h100i : (nb : Int) ≤ 100 := by omega
      clear h100
      go_wp2_with fail
      refine (HR1.out _ hMw2.out).mono ?_
      rintro e w3 ⟨rfl, hM3, hM23⟩
      have hMw3 := Lib.hid hM3
      have HX3 := hM23.blk HH2.out (fun h => h)
      clear c0 c1 c2 c3 c4 c5 c6 c7 c8 c9
      cases rB
      case false =>
        clear HX3
        go_wp2_with fail
        go_ret
        exact ⟨rfl, hMw3.out.none_below⟩
      case true =>
        have HH3 : Hid (Blk w3 w.heap.size #[.bool lo, .bool ph, .int .i64 ki, .int .u32 ve, .slice da nd dc, .slice sa ns sc, .slice ta nt tc, .slice ca nc cc, .int .i64 re] 25) := HX3
        clear HX3 hM3 hM23
        obtain ⟨c0, c1, c2, c3, c4, c5, c6, c7, c8, c9⟩ := hd_cells HH3.out
        cases lo
        case false =>
          go_wp2_with fail
          go_ret
          exact ⟨rfl, hMw3.out.none_below⟩
        case true =>
          obtain ⟨hl3, hr0, hr1⟩ := HPL.out rfl rfl
          obtain ⟨rn, rfl⟩ := Int.eq_ofNat_of_zero_le hr0
          obtain ⟨nl, hnl⟩ : ∃ nl, nl = L.length := ⟨_, rfl⟩
          rw [← hnl] at HP1 HPA hl3
          have hl3i : (nl : Int) ≤ 300 := by omega
          have HNL := Lib.hid hnl
          rw [show (rn : Int).toNat = rn from rfl] at HPA
          have HP := Lib.hid (HPA.out rfl rfl)
          clear HPA HPL hl3 hr0 hnl
          have hZ : (List.replicate rn (0 : UInt8)).length = rn := zeros_len rn
          obtain ⟨Z, hZe⟩ : ∃ Z, Z = List.replicate rn (0 : UInt8) := ⟨_, rfl⟩
          rw [← hZe] at HP hZ
          have HZE := Lib.hid hZe
          have HRN : Hid ((rn : Int) ≤ 100000) := by show _ ≤ _; omega
          have HLL : Hid ((L.length : Int) ≤ 1000000) := by show _ ≤ _; rw [← HNL.out]; omega
          have HLZ : Hid (L.length + rn = nl + rn) := by show _ = _; rw [HNL.out]
          have HLN : Hid ((L ++ Z).length = nl + rn) := by show _ = _; rw [List.length_append, hZ, HNL.out]
          have HPS : Hid (∀ X, (X.cell? ⟨w.heap.size, 0, none⟩ = some (.bool true) ∧ X.cell? ⟨w.heap.size, 1, none⟩ = some (.bool ph) ∧ X.cell? ⟨w.heap.size, 2, none⟩ = some (.int .i64 ki) ∧ X.cell? ⟨w.heap.size, 3, none⟩ = some (.int .u32 ve) ∧ X.cell? ⟨w.heap.size, 4, none⟩ = some (.slice da nd dc) ∧ X.cell? ⟨w.heap.size, 5, none⟩ = some (.slice sa ns sc) ∧ X.cell? ⟨w.heap.size, 6, none⟩ = some (.slice ta nt tc) ∧ X.cell? ⟨w.heap.size, 7, none⟩ = some (.slice ca nc cc) ∧ X.cell? ⟨w.heap.size, 8, none⟩ = some (.int .i64 (rn : Int)) ∧ Mod (fun _ => False) w3 X) → Calls Tryd.prog 15 #[.agg #[.bool true, .bool ph, .int .i64 ki, .int .u32 ve, .slice da nd dc, .slice sa ns sc, .slice ta nt tc, .slice ca nc cc, .int .i64 (rn : Int)]] X fun e Y => ∃ a cp, e = .returned (.slice a nl cp) ∧ OwnW Y w3.heap.size (.slice a nl cp) L ∧ (Y.cell? ⟨w.heap.size, 0, none⟩ = some (.bool true) ∧ Y.cell? ⟨w.heap.size, 1, none⟩ = some (.bool ph) ∧ Y.cell? ⟨w.heap.size, 2, none⟩ = some (.int .i64 ki) ∧ Y.cell? ⟨w.heap.size, 3, none⟩ = some (.int .u32 ve) ∧ Y.cell? ⟨w.heap.size, 4, none⟩ = some (.slice da nd dc) ∧ Y.cell? ⟨w.heap.size, 5, none⟩ = some (.slice sa ns sc) ∧ Y.cell? ⟨w.heap.size, 6, none⟩ = some (.slice ta nt tc) ∧ Y.cell? ⟨w.heap.size, 7, none⟩ = some (.slice ca nc cc) ∧ Y.cell? ⟨w.heap.size, 8, none⟩ = some (.int .i64 (rn : Int)) ∧ Mod (fun _ => False) w3 Y)) := by
            rintro X ⟨m0, m1, m2, m3, m4, m5, m6, m7, m8, m9⟩
            refine (HP1.out X (hMw3.out.trans m9)).mono ?_
            rintro e Y ⟨a, cp, rfl, ho, hM⟩
            exact ⟨a, cp, rfl, ho.mono m9.size, hM.cellAt m0 (fun h => h), hM.cellAt m1 (fun h => h), hM.cellAt m2 (fun h => h), hM.cellAt m3 (fun h => h), hM.cellAt m4 (fun h => h), hM.cellAt m5 (fun h => h), hM.cellAt m6 (fun h => h), hM.cellAt m7 (fun h => h), hM.cellAt m8 (fun h => h), m9.trans hM⟩
          have HCB : Hid ((L ++ Z).length + lb.length = nl + rn + nb) := by show _ = _; rw [HLN.out, HNB.out]
          clear hZ hZe
          have hM0 : Mod (fun _ => False) w3 w3 := Mod.refl _ _
          have HKC : Hid (∀ Y, Mod (fun _ => False) w3 Y → (Y.cell? ⟨w.heap.size, 0, none⟩ = some (.bool true) ∧ Y.cell? ⟨w.heap.size, 1, none⟩ = some (.bool ph) ∧ Y.cell? ⟨w.heap.size, 2, none⟩ = some (.int .i64 ki) ∧ Y.cell? ⟨w.heap.size, 3, none⟩ = some (.int .u32 ve) ∧ Y.cell? ⟨w.heap.size, 4, none⟩ = some (.slice da nd dc) ∧ Y.cell? ⟨w.heap.size, 5, none⟩ = some (.slice sa ns sc) ∧ Y.cell? ⟨w.heap.size, 6, none⟩ = some (.slice ta nt tc) ∧ Y.cell? ⟨w.heap.size, 7, none⟩ = some (.slice ca nc cc) ∧ Y.cell? ⟨w.heap.size, 8, none⟩ = some (.int .i64 (rn : Int)) ∧ Mod (fun _ => False) w3 Y)) := fun Y hM => ⟨hM.cellAt c0 (fun h => h), hM.cellAt c1 (fun h => h), hM.cellAt c2 (fun h => h), hM.cellAt c3 (fun h => h), hM.cellAt c4 (fun h => h), hM.cellAt c5 (fun h => h), hM.cellAt c6 (fun h => h), hM.cellAt c7 (fun h => h), hM.cellAt c8 (fun h => h), hM⟩
          go_upto_region 5 with fail
          go_cut [5] (fun s5 wx => ∃ a5 cp5, s5 = .slice a5 (nl + rn) cp5 ∧ OwnW wx w3.heap.size (.slice a5 (nl + rn) cp5) (L ++ Z) ∧ Mod (fun _ => False) w3 wx)
          case first =>
            go_region_held3 (fun X => X.cell? ⟨w.heap.size, 0, none⟩ = some (.bool true) ∧ X.cell? ⟨w.heap.size, 1, none⟩ = some (.bool ph) ∧ X.cell? ⟨w.heap.size, 2, none⟩ = some (.int .i64 ki) ∧ X.cell? ⟨w.heap.size, 3, none⟩ = some (.int .u32 ve) ∧ X.cell? ⟨w.heap.size, 4, none⟩ = some (.slice da nd dc) ∧ X.cell? ⟨w.heap.size, 5, none⟩ = some (.slice sa ns sc) ∧ X.cell? ⟨w.heap.size, 6, none⟩ = some (.slice ta nt tc) ∧ X.cell? ⟨w.heap.size, 7, none⟩ = some (.slice ca nc cc) ∧ X.cell? ⟨w.heap.size, 8, none⟩ = some (.int .i64 (rn : Int)) ∧ Mod (fun _ => False) w3 X) (first | assumption | (go_split_ands; (repeat' apply And.intro) <;> (first | assumption | (refine cell_ad _ _ _ _ ?_; assumption) | (refine cell_a _ _ _ _ ?_; assumption) | (refine mod_ad _ _ _ ?_; assumption) | (refine mod_a _ _ _ ?_; assumption) | (refine Mod.drew ?_; assumption))))
              (first
                | (go_at_call 15; (with_reducible refine (HPS.out _ ?_).mono ?_); (first | assumption | (refine ⟨?_, ?_, ?_, ?_, ?_, ?_, ?_, ?_, ?_, ?_⟩ <;> first | assumption | exact Mod.refl _ _ | exact (Mod.refl _ _).drew)); rintro e Y ⟨a1, cp1, rfl, ho1, hS1⟩)
                | (refine step_append_z rfl (.tmp 32) (.tmp 34) (by rfl) (.slice a1 nl cp1) L w3.heap.size rn (nl + rn) (by rfl) (by first | exact ho1 | exact ho1.drew | exact ho1.drew.drew) (by rfl) HRN.out HLL.out (L ++ Z) (by rw [HZE.out]) HLZ.out (by first | exact hS1.2.2.2.2.2.2.2.2.2.size | exact hS1.2.2.2.2.2.2.2.2.2.drew.size) ?_; intro ap2 cp2 W2 hA2 hMz; have g0 : Mod (fun _ => False) w3 W2 := hMz (by first | exact hS1.2.2.2.2.2.2.2.2.2 | exact hS1.2.2.2.2.2.2.2.2.2.drew) (Nat.le_refl _); have hS2 := HKC.out _ g0)
                | fail)
            all_goals (go_wp2_with fail; go_meet; exact ⟨ap2, cp2, rfl, hA2, g0⟩)
          case rest =>
            obtain ⟨a5, cp5, rfl, ho5, hM5⟩ := hcut
            have HO5 := Lib.hid ho5
            have hMw5 := Lib.hid (hMw3.out.trans hM5)
            have HH5 := Lib.hid (hM5.blk HH3.out (fun h => h))
            have HS5 : Hid (∀ k, (Value.slice a5 (nl + rn) cp5).ownBlock = some k → w3.heap.size ≤ k ∧ k < wc.heap.size) := fun k hk => ho5.lt k hk
            have hS35 := Lib.hid hM5.size
            clear ho5 hM5 c0 c1 c2 c3 c4 c5 c6 c7 c8 c9
            go_wp2_with fail
            refine (HP.out _ _ _ (.inl rfl) (by rw [HLN.out]; omega) HO5.out.byts).mono ?_
            rintro e w6 ⟨da6, dc6, sa6, sc6, ta6, tc6, ca6, cc6, rfl, hv6, hM6, hO6⟩
            have HV6 := Lib.hid hv6
            have HO6 := Lib.hid hO6
            have hM56 := Lib.hid hM6
            clear hv6 hM6 hO6
            go_wp2_with (at_builtin; go_must (refine wpList_append_o rfl (.tmp 43) (.tmp 44) (by rfl) (.slice a5 (nl + rn) cp5) (L ++ Z) w3.heap.size (nl + rn + nb) (by rfl) (HO5.out.keptF (hM56.out.alloc _)) _ lb (by rfl) (byts_kept HBB'.out ((hMw5.out.trans hM56.out).alloc _)) ((L ++ Z) ++ lb) (by rfl) HCB.out (by omega) (Nat.le_trans hS35.out (hM56.out.alloc _).size) ?_); intro ap7 cp7 w7 ho7 hM7)
            have hM67 := Lib.hid (((Mod.refl _ w6).alloc _).trans hM7)
            have hwc6 := Lib.hid hM56.out.size
            have HB7 : Hid (Byts w7 (.slice ap7 (nl + rn + nb) cp7) ((L ++ Z) ++ lb)) := ho7.byts
            have HV7 := Lib.hid (hdv_past HV6.out HO6.out hM67.out (fun k hk => (HS5.out k hk).2))
            have HX7 := Lib.hid (hM7.blk (Blk.new w6 #[.bool true, .bool ph, .int .i64 ki, .int .u32 ve, .slice da6 nd dc6, .slice sa6 ns sc6, .slice ta6 nt tc6, .slice ca6 nc cc6, .int .i64 (rn : Int)] 25) (fun hk => by have := (HS5.out _ hk).2; have := hwc6.out; omega))
            have HH7 := Lib.hid (hM67.out.blk (hM56.out.blk HH5.out (fun h => h)) (fun hk => by have := (HS5.out _ hk).1; have := HH3.out.lt; omega))
            have hMw7 := Lib.hid ((hMw5.out.trans hM56.out).trans' hM67.out (fun i hi hk => by have := (HS5.out _ hk).1; have := HH3.out.lt; omega))
            clear ho7 hM7
            refine (HP.out _ _ _ (.inr rfl) (by rw [List.length_append, HCB.out]; omega) HB7.out).mono ?_
            rintro e w8 ⟨da8, dc8, sa8, sc8, ta8, tc8, ca8, cc8, rfl, hv8, hM8, _⟩
            have HV8 := Lib.hid hv8
            have HV78 := Lib.hid (HV7.out.kept hM8)
            have HX8 := Lib.hid (hM8.blk HX7.out (fun h => h))
            have HH8 := Lib.hid (hM8.blk HH7.out (fun h => h))
            have hMw8 := Lib.hid (hMw7.out.trans hM8)
            clear hv8 hM8
            generalize w6.heap.size = bx at *
            have hA9 : Mod (fun _ => False) w8 (w8.alloc (.cells #[.bool true, .bool ph, .int .i64 ki, .int .u32 ve, .slice da8 nd dc8, .slice sa8 ns sc8, .slice ta8 nt tc8, .slice ca8 nc cc8, .int .i64 (rn : Int)] 25)) := (Mod.refl _ _).alloc _
            have HV9 := Lib.hid (HV8.out.kept hA9)
            have HV79 := Lib.hid (HV78.out.kept hA9)
            obtain ⟨x0, x1, x2, x3, x4, x5, x6, x7, x8, x9⟩ := hd_cells (hA9.blk HX8.out (fun h => h))
            obtain ⟨y0, y1, y2, y3, y4, y5, y6, y7, y8, y9⟩ := hd_cells (Blk.new w8 #[.bool true, .bool ph, .int .i64 ki, .int .u32 ve, .slice da8 nd dc8, .slice sa8 ns sc8, .slice ta8 nt tc8, .slice ca8 nc cc8, .int .i64 (rn : Int)] 25)
            obtain ⟨c0, c1, c2, c3, c4, c5, c6, c7, c8, c9⟩ := hd_cells (hA9.blk HH8.out (fun h => h))
            have HX9 := Lib.hid (hA9.blk HX8.out (fun h => h))
            have HH9 := Lib.hid (hA9.blk HH8.out (fun h => h))
            have hMw9 := Lib.hid (hMw8.out.trans hA9)
            clear hA9
            go_wp2_with fail
            refine (HSM.out _ da6 dc6 sa6 sc6 ta6 tc6 ca6 cc6 da8 dc8 sa8 sc8 ta8 tc8 ca8 cc8 HV79.out HV9.out).mono ?_
            rintro e w10 ⟨rfl, hM10⟩
            obtain ⟨x0', x1', x2', x3', x4', x5', x6', x7', x8', x9'⟩ := hd_cells (hM10.blk HX9.out (fun h => h))
            obtain ⟨c0', c1', c2', c3', c4', c5', c6', c7', c8', c9'⟩ := hd_cells (hM10.blk HH9.out (fun h => h))
            go_wp2_with fail
            go_ret
            exact ⟨rfl, (hMw9.out.trans hM10).none_below⟩
end Go.Proofs.YtolbeamphmoimaaDoor
