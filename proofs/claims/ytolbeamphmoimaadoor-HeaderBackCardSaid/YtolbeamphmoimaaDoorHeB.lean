/- The walk of the law that what is put, with its bytes behind it, is parsed again. -/
import Derived.Test.YtolbeamphmoimaaDoorHeA
import Derived.Deep.RegionHeld3
import Derived.IntWalk
import Derived.Deep.DeepCutAuto
namespace Go.Proofs.YtolbeamphmoimaaDoor
open Go.RowKit

set_option maxHeartbeats 8000000 in
set_option maxRecDepth 10000 in
theorem hback_any {w : World} {h : Hd} {d s t c vb : Value} {lb : List UInt8} (hT : Tabs w) (hv : HdV w h d s t c) (hb : Byts w vb lb) (hlb : (lb.length : Int) ≤ 140737488355328) :
    Calls Tryd.prog 5 #[hdV h d s t c, vb] w fun e w' => e = .returned (.bool true) ∧ Below w.heap.size w w' := by
  have HT := Lib.hid hT
  have HLB := Lib.hid hlb
  have hgr := Lib.hid (fun X (hM : Mod (fun _ => False) w X) => great_any (hv.kept hM))
  have HR1 := Lib.hid (fun X (hM : Mod (fun _ => False) w X) => (right_any (hv.kept hM)).mono fun _ _ (h : _ ∧ _) => (⟨h.1, hM.trans h.2, h.2⟩ : _ ∧ Mod (fun _ => False) w _ ∧ Mod (fun _ => False) X _))
  have HP1 := Lib.hid (call_put hT hv)
  obtain ⟨da, dc, rfl, _⟩ := byts_val hv.d
  obtain ⟨sa, sc, rfl, _⟩ := byts_val hv.s
  obtain ⟨ta, tc, rfl, _⟩ := byts_val hv.t
  obtain ⟨ca, cc, rfl, _⟩ := byts_val hv.c
  obtain ⟨ba, bc, rfl, _⟩ := byts_val hb
  have HPL : Hid (rightB h = true → (hputL h).length ≤ 300 ∧ 0 ≤ h.rest ∧ h.rest ≤ 1200) := fun hr => ⟨put_len hr, by have := (right_len hr).2.2.2.2; omega, by have := (right_len hr).2.2.2.2; omega⟩
  obtain ⟨L, hL⟩ : ∃ L, L = hputL h := ⟨_, rfl⟩
  have HPA : Hid (rightB h = true → ∀ X v l2, l2 = (if h.long then (L ++ List.replicate h.rest.toNat 0) ++ lb else L ++ List.replicate h.rest.toNat 0) → (l2.length : Int) ≤ 5000 → Byts X v l2 → (Calls Tryd.prog 19 #[v] X fun x Y => ∃ da dc sa sc ta tc ca cc, x = .returned (.tuple #[.agg #[.bool h.long, .bool h.phase, .int .i64 h.kind, .int .u32 (h.ver : Int), .slice da h.dst.length dc, .slice sa h.src.length sc, .slice ta h.tok.length tc, .slice ca h.cut.length cc, .int .i64 h.rest], .int .i64 (L.length : Int), .int .i64 0]) ∧ HdV Y h (.slice da h.dst.length dc) (.slice sa h.src.length sc) (.slice ta h.tok.length tc) (.slice ca h.cut.length cc) ∧ Mod (fun _ => False) X Y) ∧
      (Calls Tryd.prog 21 #[v] X fun x Y => ∃ a cp, x = .returned (.tuple #[.slice a h.dst.length cp, .bool h.long, .bool true]) ∧ Byts Y (.slice a h.dst.length cp) h.dst ∧ Mod (fun _ => False) X Y)) := by
    intro hr X v l2 h2 h5 hX
    have p : parseL l2 = (h, (L.length : Int), 0) ∧ peekL l2 = (h.dst, h.long, true) := by
      subst h2
      rw [hL]
      cases hl : h.long with
      | true => rw [if_pos rfl]; exact ⟨(parse_again_long hr hl hv.ver lb).2, by have := peek_put hr (List.replicate h.rest.toNat 0 ++ lb); rw [hl] at this; rw [List.append_assoc]; exact this⟩
      | false => rw [if_neg (by simp)]; exact ⟨parse_again_short hr hl, by have := peek_put hr (List.replicate h.rest.toNat 0); rw [hl] at this; exact this⟩
    refine ⟨(parse_is hX h5 p.1).mono ?_, ?_⟩
    · rintro x Y ⟨da, dc, sa, sc, ta, tc, ca, cc, hx, hv', hM, _⟩
      exact ⟨da, dc, sa, sc, ta, tc, ca, cc, hx, hv', hM⟩
    · have := peek_any hX h5
      rw [p.2] at this
      refine this.mono ?_
      rintro x Y ⟨v', rfl, hd, hM⟩
      obtain ⟨a, cp, rfl, _⟩ := byts_val hd
      exact ⟨a, cp, rfl, hd, hM⟩
  have HSM : Hid (∀ X da dc sa sc ta tc ca cc da' dc' sa' sc' ta' tc' ca' cc', HdV X h (.slice da h.dst.length dc) (.slice sa h.src.length sc) (.slice ta h.tok.length tc) (.slice ca h.cut.length cc) → HdV X h (.slice da' h.dst.length dc') (.slice sa' h.src.length sc') (.slice ta' h.tok.length tc') (.slice ca' h.cut.length cc') →
      Calls Tryd.prog 17 #[.agg #[.bool h.long, .bool h.phase, .int .i64 h.kind, .int .u32 (h.ver : Int), .slice da h.dst.length dc, .slice sa h.src.length sc, .slice ta h.tok.length tc, .slice ca h.cut.length cc, .int .i64 h.rest], .agg #[.bool h.long, .bool h.phase, .int .i64 h.kind, .int .u32 (h.ver : Int), .slice da' h.dst.length dc', .slice sa' h.src.length sc', .slice ta' h.tok.length tc', .slice ca' h.cut.length cc', .int .i64 h.rest]] X fun e Y => e = .returned (.bool true) ∧ Mod (fun _ => False) X Y) := by
    intro X da dc sa sc ta tc ca cc da' dc' sa' sc' ta' tc' ca' cc' h1 h2
    exact call_same h1 h2
  have HBB := Lib.hid hb
  have HVH : Hid (∀ X, Mod (fun _ => False) w X → HdV X h (.slice da h.dst.length dc) (.slice sa h.src.length sc) (.slice ta h.tok.length tc) (.slice ca h.cut.length cc)) := fun X hM => hv.kept hM
  have HDS : Hid (∀ X, Mod (fun _ => False) w X → Byts X (.slice da h.dst.length dc) h.dst) := fun X hM => byts_kept hv.d hM
  rw [← hL] at HP1 HPL
  unfold hdV at hgr HR1 HP1 ⊢
  clear hT hv hb hL
  generalize decide (600 < h.dst.length + h.src.length + h.tok.length + h.cut.length) = gh at *
  generalize rightB h = rB at *
  generalize h.dst.length = nd at *
  generalize h.src.length = ns at *
  generalize h.tok.length = nt at *
  generalize h.cut.length = nc at *
  generalize h.long = lo at *
  generalize h.phase = ph at *
  generalize h.kind = ki at *
  obtain ⟨D, hD⟩ : ∃ D, D = h.dst := ⟨_, rfl⟩
  rw [← hD] at HPA HDS
  clear hD
  generalize (h.ver : Int) = ve at *
  generalize h.rest = re at *
  obtain ⟨nb, hnb⟩ : ∃ nb, nb = lb.length := ⟨_, rfl⟩
  rw [← hnb] at hlb ⊢
  have HNB := Lib.hid hnb
  have HBB' : Hid (Byts w (.slice ba nb bc) lb) := by show Byts _ _ _; rw [hnb]; exact HBB.out
  clear hnb HBB HLB
  go_enter Tryd.func5, Tryd.ntmps5
  go_wp2_with fail
  have hM0 : Mod (fun _ => False) w _ := ((Mod.refl (fun _ => False) w).alloc (.cells #[.bool lo, .bool ph, .int .i64 ki, .int .u32 ve, .slice da nd dc, .slice sa ns sc, .slice ta nt tc, .slice ca nc cc, .int .i64 re] 25))
  refine (alive_any _ (hM0.tabs HT.out (fun h => h))).mono ?_
  rintro e w1 ⟨rfl, hM1⟩
  have HB1 := hM1.blk (Blk.new w _ _) (fun h => h)
  have hMw := Lib.hid (hM0.trans hM1)
  have HH1 := Lib.hid HB1
  obtain ⟨c0, c1, c2, c3, c4, c5, c6, c7, c8, c9⟩ := hd_cells HB1
  clear HB1 hM0 hM1
  go_wp2_with fail
  refine (hgr.out _ hMw.out).mono ?_
  rintro e w2 ⟨rfl, hM2⟩
  have hMw2 := Lib.hid (hMw.out.trans hM2)
  have HB2 := hM2.blk HH1.out (fun h => h)
  have HH2 := Lib.hid HB2
  clear c0 c1 c2 c3 c4 c5 c6 c7 c8 c9 hM2
  obtain ⟨c0, c1, c2, c3, c4, c5, c6, c7, c8, c9⟩ := hd_cells HB2
  clear HB2
  cases gh
  case true =>
    go_wp2_with fail
    go_ret
    exact ⟨rfl, hMw2.out.none_below⟩
  case false =>
    by_cases h100 : (100 : Int) < nb
    · go_wp2_with fail
      go_ret
      exact ⟨rfl, hMw2.out.none_below⟩
    · have h100i : (nb : Int) ≤ 100 := by omega
      clear h100
      go_wp2_with fail
      refine (HR1.out _ hMw2.out).mono ?_
      rintro e w3 ⟨rfl, hM3, hM23⟩
      have hMw3 := Lib.hid hM3
      have HX3 := hM23.blk HH2.out (fun h => h)
      clear c0 c1 c2 c3 c4 c5 c6 c7 c8 c9
      cases rB
      case false =>
        clear HX3
        go_wp2_with fail
        go_ret
        exact ⟨rfl, hMw3.out.none_below⟩
      case true =>
        have HH3 : Hid (Blk w3 w.heap.size #[.bool lo, .bool ph, .int .i64 ki, .int .u32 ve, .slice da nd dc, .slice sa ns sc, .slice ta nt tc, .slice ca nc cc, .int .i64 re] 25) := HX3
        clear HX3 hM3 hM23
        obtain ⟨c0, c1, c2, c3, c4, c5, c6, c7, c8, c9⟩ := hd_cells HH3.out
        obtain ⟨hl3, hr0, hr1⟩ := HPL.out rfl
        obtain ⟨rn, rfl⟩ := Int.eq_ofNat_of_zero_le hr0
        obtain ⟨nl, hnl⟩ : ∃ nl, nl = L.length := ⟨_, rfl⟩
        rw [← hnl] at HP1 HPA hl3
        have hl3i : (nl : Int) ≤ 300 := by omega
        have HNL := Lib.hid hnl
        rw [show (rn : Int).toNat = rn from rfl] at HPA
        have HP := Lib.hid (HPA.out rfl)
        clear HPA HPL hl3 hr0 hnl
        have hZ : (List.replicate rn (0 : UInt8)).length = rn := zeros_len rn
        obtain ⟨Z, hZe⟩ : ∃ Z, Z = List.replicate rn (0 : UInt8) := ⟨_, rfl⟩
        rw [← hZe] at HP hZ
        have HZE := Lib.hid hZe
        have HRN : Hid ((rn : Int) ≤ 100000) := by show _ ≤ _; omega
        have HLL : Hid ((L.length : Int) ≤ 1000000) := by show _ ≤ _; rw [← HNL.out]; omega
        have HLZ : Hid (L.length + rn = nl + rn) := by show _ = _; rw [HNL.out]
        have HLN : Hid ((L ++ Z).length = nl + rn) := by show _ = _; rw [List.length_append, hZ, HNL.out]
        have HL0 : Hid (([] : List UInt8).length + L.length = nl) := by show _ = _; rw [HNL.out]; simp
        have HLB : Hid ((nl : Int) ≤ 140737488355328) := by show _ ≤ _; omega
        have HCB : Hid ((L ++ Z).length + lb.length = nl + rn + nb) := by show _ = _; rw [HLN.out, HNB.out]
        have HCC : Hid ((((L ++ Z) ++ lb).length : Int) ≤ 5000) := by show _ ≤ _; rw [List.length_append, HCB.out]; omega
        have HCD : Hid (((L ++ Z).length : Int) ≤ 5000) := by show _ ≤ _; rw [HLN.out]; omega
        clear hZ hZe
        go_wp2_with fail
        refine (HP1.out _ hMw3.out).mono ?_
        rintro e w4 ⟨a4, cp4, rfl, ho4, hM4⟩
        have HB4 : Hid (Byts w4 (.slice a4 nl cp4) L) := ho4.byts
        have hM4' := Lib.hid (hMw3.out.trans hM4)
        have HC4 := Lib.hid (HH3.out.cells9.on hM4 (fun h => h))
        clear ho4 hM4 c0 c1 c2 c3 c4 c5 c6 c7 c8 c9
        obtain ⟨c0, c1, c2, c3, c4, c5, c6, c7, c8⟩ := HC4.out
        have hM0 : Mod (fun _ => False) w4 w4 := Mod.refl _ _
        have d8 := cell_a w4 (.cells #[] 5) _ _ c8
        have hown := Lib.hid (own_lit w4 [] #[] 0 w4.heap.size rfl rfl (by decide) (Nat.le_refl _)).drew
        have HBL := Lib.hid (byts_kept HB4.out (hM0.alloc (.cells #[] 5)).drew)
        go_upto_region 6 with fail
        go_cut [6] (fun s6 wx => ∃ a5 cp5, s6 = .slice a5 (nl + rn) cp5 ∧ OwnW wx w4.heap.size (.slice a5 (nl + rn) cp5) (L ++ Z) ∧ Mod (fun _ => False) w4 wx)
        case first =>
          go_region_law (first
            | (refine step_append_b rfl (.tmp 29) (.tmp 30) (by rfl) (.slice (some ⟨w4.heap.size, 0, none⟩) 0 0) [] w4.heap.size nl (by rfl) hown.out _ L (by rfl) HBL.out L rfl HL0.out HLB.out (hM0.alloc _).drew.size ?_; intro ap1 cp1 W1 hA1; have g0 := hA1.modF (hM0.alloc _).drew (Nat.le_refl _); have g8 := g0.cellAt c8 (fun h => h))
            | (refine step_append_z rfl (.tmp 31) (.tmp 33) (by rfl) (.slice ap1 nl cp1) L w4.heap.size rn (nl + rn) (by rfl) hA1.own.wide (by rfl) HRN.out HLL.out (L ++ Z) (by rw [HZE.out]) HLZ.out g0.size ?_; intro ap2 cp2 W2 hA2 hMz; have k0 : Mod (fun _ => False) w4 W2 := hMz g0 (Nat.le_refl _))
            | fail)
          all_goals (go_wp2_with fail; go_meet; exact ⟨ap2, cp2, rfl, hA2, k0⟩)
        case rest =>
          obtain ⟨a5, cp5, rfl, ho5, hM5⟩ := hcut
          have HO5 := Lib.hid ho5
          have hM45 := Lib.hid hM5
          have hMw5 := Lib.hid (hM4'.out.trans hM5)
          have HC5 := Lib.hid (HC4.out.on hM5 (fun h => h))
          clear ho5 hM5 d8 hown HBL hM0 c0 c1 c2 c3 c4 c5 c6 c7 c8
          obtain ⟨c0, c1, c2, c3, c4, c5, c6, c7, c8⟩ := HC5.out
          cases lo
          case false =>
            have HH7 := HC5
            go_wp2_with fail
            refine (HP.out _ _ (L ++ Z) (by simp) (by rw [HLN.out]; omega) HO5.out.byts).1.mono ?_
            rintro e w8 ⟨da8, dc8, sa8, sc8, ta8, tc8, ca8, cc8, rfl, hv8, hM8⟩
            have HV8 := Lib.hid hv8
            have hMw8 := Lib.hid ((hMw5.out).trans hM8)
            have HC8 := Lib.hid (byts_kept HO5.out.byts hM8)
            have HH8 := Lib.hid (HH7.out.on hM8 (fun h => h))
            clear hv8 hM8
            go_wp2_with fail
            have hA9 : Mod (fun _ => False) w8 (w8.alloc (.cells #[.bool false, .bool ph, .int .i64 ki, .int .u32 ve, .slice da8 nd dc8, .slice sa8 ns sc8, .slice ta8 nt tc8, .slice ca8 nc cc8, .int .i64 (rn : Int)] 25)) := (Mod.refl _ _).alloc _
            have hB9 := Blk.new w8 #[.bool false, .bool ph, .int .i64 ki, .int .u32 ve, .slice da8 nd dc8, .slice sa8 ns sc8, .slice ta8 nt tc8, .slice ca8 nc cc8, .int .i64 (rn : Int)] 25
            obtain ⟨w9, hw9⟩ : ∃ w9, w9 = w8.alloc (.cells #[.bool false, .bool ph, .int .i64 ki, .int .u32 ve, .slice da8 nd dc8, .slice sa8 ns sc8, .slice ta8 nt tc8, .slice ca8 nc cc8, .int .i64 (rn : Int)] 25) := ⟨_, rfl⟩
            rw [← hw9] at hA9 hB9 ⊢
            have HB9 := Lib.hid hB9
            have HV9 := Lib.hid (HV8.out.kept hA9)
            have hMw9 := Lib.hid (hMw8.out.trans hA9)
            have HC9 := Lib.hid (byts_kept HC8.out hA9)
            have HH9 := Lib.hid (HH8.out.on hA9 (fun h => h))
            clear hA9 hB9 hw9
            generalize w8.heap.size = bx at *
            refine (HP.out _ _ (L ++ Z) (by simp) (by rw [HLN.out]; omega) HC9.out).2.mono ?_
            rintro e w10 ⟨a10, cp10, rfl, hd10, hM10⟩
            have HD10 := Lib.hid hd10
            have HB10 := Lib.hid (hM10.blk HB9.out (fun h => h))
            have HV10 := Lib.hid (HV9.out.kept hM10)
            have HH10 := Lib.hid (HH9.out.on hM10 (fun h => h))
            have hMw10 := Lib.hid (hMw9.out.trans hM10)
            clear hd10 hM10
            obtain ⟨x0, x1, x2, x3, x4, x5, x6, x7, x8, x9⟩ := hd_cells HB10.out
            obtain ⟨c0, c1, c2, c3, c4, c5, c6, c7, c8⟩ := HH10.out
            go_wp2_with fail
            refine (HSM.out _ da dc sa sc ta tc ca cc da8 dc8 sa8 sc8 ta8 tc8 ca8 cc8 (HVH.out _ hMw10.out) HV10.out).mono ?_
            rintro e w11 ⟨rfl, hM11⟩
            have HD11 := Lib.hid (byts_kept HD10.out hM11)
            have HH11 := Lib.hid (HH10.out.on hM11 (fun h => h))
            have hMw11 := Lib.hid (hMw10.out.trans hM11)
            clear hM11 x0 x1 x2 x3 x4 x5 x6 x7 x8 x9 c0 c1 c2 c3 c4 c5 c6 c7 c8
            obtain ⟨c0, c1, c2, c3, c4, c5, c6, c7, c8⟩ := HH11.out
            go_wp2_with fail
            refine (same_m HD11.out (HDS.out _ hMw11.out)).mono ?_
            rintro e w12 ⟨rfl, hM12⟩
            rw [decide_eq_true rfl]
            go_wp2_with fail
            go_ret
            exact ⟨rfl, (hMw11.out.trans hM12).none_below⟩
          case true =>
            go_wp2_with (at_builtin; go_must (refine wpList_append_w rfl (.tmp 37) (.tmp 38) (by rfl) (.slice a5 (nl + rn) cp5) (L ++ Z) w4.heap.size (nl + rn + nb) (by rfl) HO5.out _ lb (by rfl) (byts_kept HBB'.out hMw5.out) ((L ++ Z) ++ lb) (by rfl) HCB.out (by omega) hM45.out.size ?_); intro ap7 cp7 w7 ho7 hM7)
            have hM47 := Lib.hid (hM7 hM45.out (Nat.le_refl _))
            have HB7 := Lib.hid ho7.byts
            have hMw7 := Lib.hid (hM4'.out.trans hM47.out)
            have HH7 := Lib.hid (HC4.out.on hM47.out (fun h => h))
            clear ho7 hM7
            refine (HP.out _ _ ((L ++ Z) ++ lb) (by simp) (by rw [List.length_append, HCB.out]; omega) HB7.out).1.mono ?_
            rintro e w8 ⟨da8, dc8, sa8, sc8, ta8, tc8, ca8, cc8, rfl, hv8, hM8⟩
            have HV8 := Lib.hid hv8
            have hMw8 := Lib.hid ((hMw7.out).trans hM8)
            have HC8 := Lib.hid (byts_kept HB7.out hM8)
            have HH8 := Lib.hid (HH7.out.on hM8 (fun h => h))
            clear hv8 hM8
            go_wp2_with fail
            have hA9 : Mod (fun _ => False) w8 (w8.alloc (.cells #[.bool true, .bool ph, .int .i64 ki, .int .u32 ve, .slice da8 nd dc8, .slice sa8 ns sc8, .slice ta8 nt tc8, .slice ca8 nc cc8, .int .i64 (rn : Int)] 25)) := (Mod.refl _ _).alloc _
            have hB9 := Blk.new w8 #[.bool true, .bool ph, .int .i64 ki, .int .u32 ve, .slice da8 nd dc8, .slice sa8 ns sc8, .slice ta8 nt tc8, .slice ca8 nc cc8, .int .i64 (rn : Int)] 25
            obtain ⟨w9, hw9⟩ : ∃ w9, w9 = w8.alloc (.cells #[.bool true, .bool ph, .int .i64 ki, .int .u32 ve, .slice da8 nd dc8, .slice sa8 ns sc8, .slice ta8 nt tc8, .slice ca8 nc cc8, .int .i64 (rn : Int)] 25) := ⟨_, rfl⟩
            rw [← hw9] at hA9 hB9 ⊢
            have HB9 := Lib.hid hB9
            have HV9 := Lib.hid (HV8.out.kept hA9)
            have hMw9 := Lib.hid (hMw8.out.trans hA9)
            have HC9 := Lib.hid (byts_kept HC8.out hA9)
            have HH9 := Lib.hid (HH8.out.on hA9 (fun h => h))
            clear hA9 hB9 hw9
            generalize w8.heap.size = bx at *
            refine (HP.out _ _ ((L ++ Z) ++ lb) (by simp) (by rw [List.length_append, HCB.out]; omega) HC9.out).2.mono ?_
            rintro e w10 ⟨a10, cp10, rfl, hd10, hM10⟩
            have HD10 := Lib.hid hd10
            have HB10 := Lib.hid (hM10.blk HB9.out (fun h => h))
            have HV10 := Lib.hid (HV9.out.kept hM10)
            have HH10 := Lib.hid (HH9.out.on hM10 (fun h => h))
            have hMw10 := Lib.hid (hMw9.out.trans hM10)
            clear hd10 hM10
            obtain ⟨x0, x1, x2, x3, x4, x5, x6, x7, x8, x9⟩ := hd_cells HB10.out
            obtain ⟨c0, c1, c2, c3, c4, c5, c6, c7, c8⟩ := HH10.out
            go_wp2_with fail
            refine (HSM.out _ da dc sa sc ta tc ca cc da8 dc8 sa8 sc8 ta8 tc8 ca8 cc8 (HVH.out _ hMw10.out) HV10.out).mono ?_
            rintro e w11 ⟨rfl, hM11⟩
            have HD11 := Lib.hid (byts_kept HD10.out hM11)
            have HH11 := Lib.hid (HH10.out.on hM11 (fun h => h))
            have hMw11 := Lib.hid (hMw10.out.trans hM11)
            clear hM11 x0 x1 x2 x3 x4 x5 x6 x7 x8 x9 c0 c1 c2 c3 c4 c5 c6 c7 c8
            obtain ⟨c0, c1, c2, c3, c4, c5, c6, c7, c8⟩ := HH11.out
            go_wp2_with fail
            refine (same_m HD11.out (HDS.out _ hMw11.out)).mono ?_
            rintro e w12 ⟨rfl, hM12⟩
            rw [decide_eq_true rfl]
            go_wp2_with fail
            go_ret
            exact ⟨rfl, (hMw11.out.trans hM12).none_below⟩
end Go.Proofs.YtolbeamphmoimaaDoor
