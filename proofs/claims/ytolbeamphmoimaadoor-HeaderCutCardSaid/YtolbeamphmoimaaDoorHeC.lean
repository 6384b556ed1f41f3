/- The walk of the law that a header that is cut off is none. -/
import Derived.Test.YtolbeamphmoimaaDoorHeA
import Derived.IntWalk
namespace Go.Proofs.YtolbeamphmoimaaDoor
open Go.RowKit

set_option maxHeartbeats 8000000 in
set_option maxRecDepth 10000 in
theorem hcut_any {w : World} {h : Hd} {d s t c : Value} {x : Int} (hT : Tabs w) (hv : HdV w h d s t c) (hx : 0 ≤ x ∧ x ≤ 65535) :
    Calls Tryd.prog 6 #[hdV h d s t c, .int .u16 x] w fun e w' => e = .returned (.bool true) ∧ Below w.heap.size w w' := by
  have HT := Lib.hid hT
  have hgr := Lib.hid (fun X (hM : Mod (fun _ => False) w X) => great_any (hv.kept hM))
  have HR1 := Lib.hid (fun X (hM : Mod (fun _ => False) w X) => (right_any (hv.kept hM)).mono fun _ _ (h : _ ∧ _) => (⟨h.1, hM.trans h.2, h.2⟩ : _ ∧ Mod (fun _ => False) w _ ∧ Mod (fun _ => False) X _))
  have HP1 := Lib.hid (call_put hT hv)
  obtain ⟨da, dc, rfl, _⟩ := byts_val hv.d
  obtain ⟨sa, sc, rfl, _⟩ := byts_val hv.s
  obtain ⟨ta, tc, rfl, _⟩ := byts_val hv.t
  obtain ⟨ca, cc, rfl, _⟩ := byts_val hv.c
  have HPL : Hid (rightB h = true → 0 < (hputL h).length ∧ (hputL h).length ≤ 300 ∧ 0 ≤ h.rest ∧ h.rest ≤ 1200) := fun hr => ⟨put_pos hr, put_len hr, by have := (right_len hr).2.2.2.2; omega, by have := (right_len hr).2.2.2.2; omega⟩
  obtain ⟨L, hL⟩ : ∃ L, L = hputL h := ⟨_, rfl⟩
  have HPA : Hid (rightB h = true → ∀ X v k l2, l2 = (if h.long then L ++ List.replicate h.rest.toNat 0 else L) → k < l2.length → (l2.length : Int) ≤ 5000 → Byts X v (l2.take k) → Calls Tryd.prog 19 #[v] X fun x Y => ∃ da dc sa sc ta tc ca cc, x = .returned (.tuple #[.agg #[.bool false, .bool false, .int .i64 0, .int .u32 0, .slice da 0 dc, .slice sa 0 sc, .slice ta 0 tc, .slice ca 0 cc, .int .i64 0], .int .i64 0, .int .i64 2]) ∧ Mod (fun _ => False) X Y) := by
    intro hr X v k l2 h2 hk h5 hX
    subst h2
    have p := cut_any hr k (by rw [← hL]; exact hk)
    rw [← hL] at p
    refine (parse_is hX (by rw [List.length_take]; omega) p).mono ?_
    rintro x Y ⟨da, dc, sa, sc, ta, tc, ca, cc, hx, _, hM, _⟩
    exact ⟨da, dc, sa, sc, ta, tc, ca, cc, hx, hM⟩
  rw [← hL] at HP1 HPL
  unfold hdV at hgr HR1 HP1 ⊢
  clear hT hv hL
  generalize decide (600 < h.dst.length + h.src.length + h.tok.length + h.cut.length) = gh at *
  generalize rightB h = rB at *
  generalize h.dst.length = nd at *
  generalize h.src.length = ns at *
  generalize h.tok.length = nt at *
  generalize h.cut.length = nc at *
  generalize h.long = lo at *
  generalize h.phase = ph at *
  generalize h.kind = ki at *
  generalize (h.ver : Int) = ve at *
  generalize h.rest = re at *
  go_enter Tryd.func6, Tryd.ntmps6
  go_wp2_with fail
  have hM0 : Mod (fun _ => False) w _ := ((Mod.refl (fun _ => False) w).alloc (.cells #[.bool lo, .bool ph, .int .i64 ki, .int .u32 ve, .slice da nd dc, .slice sa ns sc, .slice ta nt tc, .slice ca nc cc, .int .i64 re] 25))
  refine (alive_any _ (hM0.tabs HT.out (fun h => h))).mono ?_
  rintro e w1 ⟨rfl, hM1⟩
  have HB1 := hM1.blk (Blk.new w _ _) (fun h => h)
  have hMw := Lib.hid (hM0.trans hM1)
  have HH1 := Lib.hid HB1
  obtain ⟨c0, c1, c2, c3, c4, c5, c6, c7, c8, c9⟩ := hd_cells HB1
  clear HB1 hM0 hM1
  go_wp2_with fail
  refine (hgr.out _ hMw.out).mono ?_
  rintro e w2 ⟨rfl, hM2⟩
  have hMw2 := Lib.hid (hMw.out.trans hM2)
  have HB2 := hM2.blk HH1.out (fun h => h)
  have HH2 := Lib.hid HB2
  clear c0 c1 c2 c3 c4 c5 c6 c7 c8 c9 hM2
  obtain ⟨c0, c1, c2, c3, c4, c5, c6, c7, c8, c9⟩ := hd_cells HB2
  clear HB2
  cases gh
  case true =>
    go_wp2_with fail
    go_ret
    exact ⟨rfl, hMw2.out.none_below⟩
  case false =>
    go_wp2_with fail
    refine (HR1.out _ hMw2.out).mono ?_
    rintro e w3 ⟨rfl, hM3, hM23⟩
    have hMw3 := Lib.hid hM3
    have HX3 := hM23.blk HH2.out (fun h => h)
    clear c0 c1 c2 c3 c4 c5 c6 c7 c8 c9
    cases rB
    case false =>
      clear HX3
      go_wp2_with fail
      go_ret
      exact ⟨rfl, hMw3.out.none_below⟩
    case true =>
      have HH3 : Hid (Blk w3 w.heap.size #[.bool lo, .bool ph, .int .i64 ki, .int .u32 ve, .slice da nd dc, .slice sa ns sc, .slice ta nt tc, .slice ca nc cc, .int .i64 re] 25) := HX3
      clear HX3 hM3 hM23
      obtain ⟨c0, c1, c2, c3, c4, c5, c6, c7, c8, c9⟩ := hd_cells HH3.out
      obtain ⟨hlp, hl3, hr0, hr1⟩ := HPL.out rfl
      obtain ⟨rn, rfl⟩ := Int.eq_ofNat_of_zero_le hr0
      obtain ⟨nl, hnl⟩ : ∃ nl, nl = L.length := ⟨_, rfl⟩
      rw [← hnl] at HP1 hl3 hlp
      have hl3i : (nl : Int) ≤ 300 := by omega
      have hlpi : (1 : Int) ≤ nl := by omega
      have HNL := Lib.hid hnl
      rw [show (rn : Int).toNat = rn from rfl] at HPA
      have HP := Lib.hid (HPA.out rfl)
      clear HPA HPL hl3 hr0 hnl hlp
      have hZ : (List.replicate rn (0 : UInt8)).length = rn := zeros_len rn
      obtain ⟨Z, hZe⟩ : ∃ Z, Z = List.replicate rn (0 : UInt8) := ⟨_, rfl⟩
      rw [← hZe] at HP hZ
      have HZE := Lib.hid hZe
      have HRN : Hid ((rn : Int) ≤ 100000) := by show _ ≤ _; omega
      have HLL : Hid ((L.length : Int) ≤ 1000000) := by show _ ≤ _; rw [← HNL.out]; omega
      have HLZ : Hid (L.length + rn = nl + rn) := by show _ = _; rw [HNL.out]
      have HLN : Hid ((L ++ Z).length = nl + rn) := by show _ = _; rw [List.length_append, hZ, HNL.out]
      clear hZ hZe
      go_wp2_with fail
      refine (HP1.out _ hMw3.out).mono ?_
      rintro e w4 ⟨a4, cp4, rfl, ho4, hM4⟩
      have HO4 := Lib.hid ho4
      have hM4' := Lib.hid hM4
      have HC4 := Lib.hid (HH3.out.cells9.on hM4 (fun h => h))
      clear ho4 hM4 c0 c1 c2 c3 c4 c5 c6 c7 c8 c9
      obtain ⟨c0, c1, c2, c3, c4, c5, c6, c7, c8⟩ := HC4.out
      cases lo
      case false =>
        have hcp := (HO4.out.addr (by rw [← List.length_pos_iff]; have := HNL.out; omega)).choose_spec.2.2
        have hm0 : 0 ≤ x % (nl : Int) := Int.emod_nonneg _ (by omega)
        have hm1 : x % (nl : Int) < nl := Int.emod_lt_of_pos _ (by omega)
        have hm2 : x % (nl : Int) ≤ cp4 := by omega
        go_wp2_with fail
        refine (HP.out w4 _ (x % (nl : Int)).toNat (L) (by simp) (by rw [← HNL.out]; omega) (by rw [← HNL.out]; omega) (byts_take HO4.out.byts (by omega))).mono ?_
        rintro e w8 ⟨da8, dc8, sa8, sc8, ta8, tc8, ca8, cc8, rfl, hM8⟩
        go_wp2_with fail
        go_ret
        exact ⟨rfl, ((hMw3.out.trans hM4'.out).trans hM8 |>.alloc _).none_below⟩
      case true =>
        go_wp2_with (at_builtin; go_must (refine wpList_append_z rfl (.tmp 22) (.tmp 24) (by rfl) (.slice a4 nl cp4) L w3.heap.size rn (nl + rn) (by rfl) HO4.out (by rfl) HRN.out HLL.out (L ++ Z) (by rw [HZE.out]) HLZ.out hM4'.out.size ?_); intro ap7 cp7 w7 ho7 hM7; have hcp := (ho7.addr (by rw [← List.length_pos_iff]; have := HNL.out; have := HLN.out; omega)).choose_spec.2.2; have hm0 : 0 ≤ x % ((nl : Int) + rn) := Int.emod_nonneg _ (by omega); have hm1 : x % ((nl : Int) + rn) < (nl : Int) + rn := Int.emod_lt_of_pos _ (by omega); have hm2 : x % ((nl : Int) + rn) ≤ cp7 := by omega)
        refine (HP.out w7 _ (x % ((nl : Int) + rn)).toNat (L ++ Z) (by simp) (by rw [HLN.out]; omega) (by rw [HLN.out]; omega) (byts_take ho7.byts (by omega))).mono ?_
        rintro e w8 ⟨da8, dc8, sa8, sc8, ta8, tc8, ca8, cc8, rfl, hM8⟩
        go_wp2_with fail
        go_ret
        exact ⟨rfl, ((hMw3.out.trans (hM7 hM4'.out (Nat.le_refl _))).trans hM8 |>.alloc _).none_below⟩
end Go.Proofs.YtolbeamphmoimaaDoor
