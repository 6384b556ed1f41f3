/- The walk of the law on whose a packet is, whatever stands behind its header. -/
import Derived.Test.YtolbeamphmoimaaDoorHdU
import Derived.Test.YtolbeamphmoimaaDoorHdX
namespace Go.Proofs.YtolbeamphmoimaaDoor
open Go.RowKit

theorem szN_le8 (n : Nat) : (putL n).length ≤ 8 := by rw [putL_length]; exact szN_le n
theorem put_len {h : Hd} (hr : rightB h = true) : (hputL h).length ≤ 300 := by
  obtain ⟨l1, l2, l3, l4, l5, l6⟩ := right_len hr
  cases hl : h.long with
  | true =>
    obtain ⟨k1, k2, k3⟩ := right_long hr hl
    have e := congrArg List.length (put_long_eq hr hl [])
    have q1 := szN_le8 h.tok.length
    have q2 := szN_le8 (h.cut.length + h.rest.toNat)
    have q3 : (if h.kind = 0 then putL h.tok.length ++ h.tok else []).length ≤ 208 := by split <;> simp <;> omega
    simp only [List.append_nil, List.length_cons, List.length_append, List.length_nil] at e
    omega
  | false =>
    obtain ⟨k1, k2, k3, k4, k5⟩ := right_short hr hl
    have e := congrArg List.length (put_short_eq hr hl [])
    simp only [List.append_nil, List.length_cons, List.length_append] at e
    omega

set_option maxHeartbeats 8000000 in
set_option maxRecDepth 10000 in
theorem hpeeks_any {w : World} {h : Hd} {d s t c vb : Value} {lb : List UInt8} (hT : Tabs w) (hv : HdV w h d s t c) (hb : Byts w vb lb) (hlb : (lb.length : Int) ≤ 140737488355328) :
    Calls Tryd.prog 7 #[hdV h d s t c, vb] w fun e w' => e = .returned (.bool true) ∧ Below w.heap.size w w' := by
  have HT := Lib.hid hT
  have HBB := Lib.hid hb
  have HLB := Lib.hid hlb
  have hgr := Lib.hid (fun X (hM : Mod (fun _ => False) w X) => great_any (hv.kept hM))
  have HR1 := Lib.hid (fun X (hM : Mod (fun _ => False) w X) => (right_any (hv.kept hM)).mono fun _ _ (h : _ ∧ _) => (⟨h.1, hM.trans h.2, h.2⟩ : _ ∧ Mod (fun _ => False) w _ ∧ Mod (fun _ => False) X _))
  have HP1 : Hid (∀ X, Mod (fun _ => False) w X → Calls Tryd.prog 15 #[hdV h d s t c] X fun e Y => ∃ a cp, e = .returned (.slice a (hputL h).length cp) ∧ OwnW Y X.heap.size (.slice a (hputL h).length cp) (hputL h) ∧ Mod (fun _ => False) X Y) := by
    intro X hM
    refine (hput_any (hM.tabs HT.out (fun h => h)) (hv.kept hM)).mono ?_
    rintro e Y ⟨v, rfl, ho, hY⟩
    obtain ⟨a, cp, rfl, _⟩ := byts_val ho.byts
    exact ⟨a, cp, rfl, ho, hY⟩
  obtain ⟨da, dc, rfl, _⟩ := byts_val hv.d
  obtain ⟨sa, sc, rfl, _⟩ := byts_val hv.s
  obtain ⟨ta, tc, rfl, _⟩ := byts_val hv.t
  obtain ⟨ca, cc, rfl, _⟩ := byts_val hv.c
  obtain ⟨ba, bc, rfl, _⟩ := byts_val hb
  have HPL : Hid (rightB h = true → (hputL h).length ≤ 300 ∧ peekL (hputL h) = (h.dst, h.long, true) ∧ peekL (hputL h ++ lb) = (h.dst, h.long, true)) := fun hr => ⟨put_len hr, by have := peek_put hr []; rwa [List.append_nil] at this, peek_put hr lb⟩
  unfold hdV at hgr HR1 HP1 ⊢
  clear hT hv hb
  generalize decide (600 < h.dst.length + h.src.length + h.tok.length + h.cut.length) = gh at *
  obtain ⟨L, hL⟩ : ∃ L, L = hputL h := ⟨_, rfl⟩
  rw [← hL] at HP1 HPL
  clear hL
  generalize rightB h = rB at *
  generalize h.dst.length = nd at *
  generalize h.src.length = ns at *
  generalize h.tok.length = nt at *
  generalize h.cut.length = nc at *
  generalize h.long = lo at *
  generalize h.phase = ph at *
  generalize h.kind = ki at *
  generalize (h.ver : Int) = ve at *
  generalize h.rest = re at *
  obtain ⟨nb, hnb⟩ : ∃ nb, nb = lb.length := ⟨_, rfl⟩
  rw [← hnb] at hlb ⊢
  have HNB := Lib.hid hnb
  have HBB' : Hid (Byts w (.slice ba nb bc) lb) := by show Byts _ _ _; rw [hnb]; exact HBB.out
  clear hnb HBB HLB
  go_enter Tryd.func7, Tryd.ntmps7
  go_wp2_with fail
  have hM0 : Mod (fun _ => False) w _ := ((Mod.refl (fun _ => False) w).alloc (.cells #[.bool lo, .bool ph, .int .i64 ki, .int .u32 ve, .slice da nd dc, .slice sa ns sc, .slice ta nt tc, .slice ca nc cc, .int .i64 re] 25))
  refine (alive_any _ (hM0.tabs HT.out (fun h => h))).mono ?_
  rintro e w1 ⟨rfl, hM1⟩
  have HB1 := hM1.blk (Blk.new w _ _) (fun h => h)
  have hMw := Lib.hid (hM0.trans hM1)
  have HH1 := Lib.hid HB1
  obtain ⟨c0, c1, c2, c3, c4, c5, c6, c7, c8, c9⟩ := hd_cells HB1
  clear HB1 hM0 hM1
  go_wp2_with fail
  refine (hgr.out _ hMw.out).mono ?_
  rintro e w2 ⟨rfl, hM2⟩
  have hMw2 := Lib.hid (hMw.out.trans hM2)
  have HB2 := hM2.blk HH1.out (fun h => h)
  have HH2 := Lib.hid HB2
  clear c0 c1 c2 c3 c4 c5 c6 c7 c8 c9 hM2
  obtain ⟨c0, c1, c2, c3, c4, c5, c6, c7, c8, c9⟩ := hd_cells HB2
  clear HB2
  cases gh
  case true =>
    go_wp2_with fail
    go_ret
    exact ⟨rfl, hMw2.out.none_below⟩
  case false =>
    by_cases h100 : (100 : Int) < nb
    · go_wp2_with fail
      go_ret
      exact ⟨rfl, hMw2.out.none_below⟩
    · have h100i : (nb : Int) ≤ 100 := by omega
      clear h100
      go_wp2_with fail
      refine (HR1.out _ hMw2.out).mono ?_
      rintro e w3 ⟨rfl, hM3, hM23⟩
      have hMw3 := Lib.hid hM3
      have HX3 := hM23.blk HH2.out (fun h => h)
      clear c0 c1 c2 c3 c4 c5 c6 c7 c8 c9
      cases rB
      case false =>
        clear HX3
        go_wp2_with fail
        go_ret
        exact ⟨rfl, hMw3.out.none_below⟩
      case true =>
        obtain ⟨hl3, hk1, hk2⟩ := HPL.out rfl
        have HK1 := Lib.hid hk1
        have HK2 := Lib.hid hk2
        have HL3 := Lib.hid hl3
        obtain ⟨nl, hnl⟩ : ∃ nl, nl = L.length := ⟨_, rfl⟩
        rw [← hnl] at HP1
        have hl3i : (nl : Int) ≤ 300 := by omega
        have HNL := Lib.hid hnl
        have HZ : Hid (L.length + lb.length = nl + nb) := by show _ = _; rw [hnl, HNB.out]
        clear HPL hl3 hk1 hk2 hnl
        have HH3 : Hid (Blk w3 w.heap.size #[.bool lo, .bool ph, .int .i64 ki, .int .u32 ve, .slice da nd dc, .slice sa ns sc, .slice ta nt tc, .slice ca nc cc, .int .i64 re] 25) := HX3
        obtain ⟨c0, c1, c2, c3, c4, c5, c6, c7, c8, c9⟩ := hd_cells HH3.out
        clear hM23 hM3 HX3
        go_wp2_with fail
        refine (HP1.out _ hMw3.out).mono ?_
        rintro e w4 ⟨a4, cp4, rfl, ho4, hM4⟩
        have HB4 : Hid (Byts w4 (.slice a4 L.length cp4) L) := by show Byts _ _ _; rw [← HNL.out]; exact ho4.byts
        have hMw4 := Lib.hid (hMw3.out.trans hM4)
        have HH4 := Lib.hid (hM4.blk HH3.out (fun h => h))
        clear ho4 hM4 c0 c1 c2 c3 c4 c5 c6 c7 c8 c9
        go_wp2_with fail
        have hpk := peek_any HB4.out (by have := HL3.out; omega)
        rw [HK1.out, ← HNL.out] at hpk
        refine hpk.mono ?_
        rintro e w5 ⟨v5, rfl, hd5, hM5⟩
        obtain ⟨a5, cp5, rfl, _⟩ := byts_val hd5
        have HD5 := Lib.hid hd5
        have hMw5 := Lib.hid (hMw4.out.trans hM5)
        have HH5 := Lib.hid (hM5.blk HH4.out (fun h => h))
        clear hd5 hM5 hpk
        obtain ⟨c0, c1, c2, c3, c4, c5, c6, c7, c8, c9⟩ := hd_cells HH5.out
        simp only
        go_wp2_with fail
        refine (HP1.out _ hMw5.out).mono ?_
        rintro e w6 ⟨a6, cp6, rfl, ho6, hM6⟩
        have HO6 := Lib.hid ho6
        have hM6' := Lib.hid hM6
        have HBB6 := Lib.hid (byts_kept HBB'.out (hMw5.out.trans hM6))
        clear ho6 hM6 c0 c1 c2 c3 c4 c5 c6 c7 c8 c9
        go_wp2_with (at_builtin; go_must (refine wpList_append_w rfl (.tmp 34) (.tmp 35) (by rfl) (.slice a6 nl cp6) L w5.heap.size (nl + nb) (by rfl) HO6.out _ lb (by rfl) HBB6.out (L ++ lb) (by rfl) HZ.out (by omega) hM6'.out.size ?_); intro ap7 cp7 w7 ho7 hM7)
        have hM57 := Lib.hid (hM7 hM6'.out (Nat.le_refl _))
        have HB7 : Hid (Byts w7 (.slice ap7 (nl + nb) cp7) (L ++ lb)) := ho7.byts
        clear ho7 hM7
        have hpk := peek_any HB7.out (by rw [List.length_append, HZ.out]; omega)
        rw [HK2.out] at hpk
        refine hpk.mono ?_
        rintro e w8 ⟨v8, rfl, hd8, hM8⟩
        obtain ⟨a8, cp8, rfl, _⟩ := byts_val hd8
        have HD8 := Lib.hid hd8
        have hM58 := Lib.hid (hM57.out.trans hM8)
        have HD58 := Lib.hid (byts_kept HD5.out hM58.out)
        have HH8 := hM58.out.blk HH5.out (fun h => h)
        have hMw8 := Lib.hid (hMw5.out.trans hM58.out)
        obtain ⟨c0, c1, c2, c3, c4, c5, c6, c7, c8, c9⟩ := hd_cells HH8
        clear hd8 hM8 hpk HH8
        simp only
        go_wp2_with fail
        refine (same_m HD58.out HD8.out).mono ?_
        rintro e w9 ⟨rfl, hM9⟩
        rw [decide_eq_true rfl]
        go_wp2_with fail
        go_ret
        exact ⟨rfl, (hMw8.out.trans hM9).none_below⟩
end Go.Proofs.YtolbeamphmoimaaDoor
