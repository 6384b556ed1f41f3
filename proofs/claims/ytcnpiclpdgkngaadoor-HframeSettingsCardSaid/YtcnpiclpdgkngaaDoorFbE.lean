/- The walk of the law that settings are read as they were put, and twice one is none. (printed by genfbe.py) -/
import Derived.Test.YtcnpiclpdgkngaaDoorFbB
import Derived.Test.YtcnpiclpdgkngaaDoorFbC
import Derived.Test.YtcnpiclpdgkngaaDoorFbD
namespace Go.Proofs.YtcnpiclpdgkngaaDoor
open Go.RowKit

theorem step_append_ss {w : World} {ops : Array Oper} {o : Oper} {a : Act} {K : Act → World → Prop} {Q : Exit → Act → World → Prop} {E : Prop} (hgd : o.guard = none) (s x : Operand)
    (ho : o.op = .call { callee := .builtin .append, args := #[s, x], argTypes := #[23, 23] })
    (v : Value) (l : List (Nat × Nat)) (B : Nat) (hs : a.eval s = v) (hown : OwnS w B v l)
    (sv : Value) (news : List (Nat × Nat)) (hx : a.eval x = sv) (hsl : SetV w sv news) (n : Nat) (hln : l.length + news.length = n) (hn : n ≤ 100000) (hbase : B ≤ w.heap.size) (L : List (Nat × Nat)) (hL : L = l ++ news)
    (h : ∀ ap cp w', OwnS w' B (.slice ap n cp) L → w.grownBy w' v.ownBlock → K (a.put o.dst (.slice ap n cp)) w') :
    if Region.wanted o (yielded ops a.tmps) = true then Oper.wp Tryd.prog o a w K Q else E := by
  subst hL
  obtain ⟨i0, hi, hz0, hz1, hz2⟩ := info_parts infoSet
  refine step_append_sl hgd s x 23 ho B 49 i0 _ 2 16 Tryd.underlying23 hi hz0 hz1 hz2 rfl (by decide) v l.length (l.flatMap setC) hs hown sv news.length (news.flatMap setC) hx hsl (setC_one _) (by omega) (by decide) hbase ?_
  intro v' w' ho' hg
  have e : (l ++ news).length = n := by simpa using hln
  have ho2 : OwnS w' B v' (l ++ news) := by unfold OwnS; simpa using ho'
  obtain ⟨ap, cp, rfl, _⟩ := set_val ho2.setv
  rw [e] at ho2 ⊢
  exact h ap cp w' ho2 hg
theorem own_none (w : World) : OwnS (w.alloc (.cells #[] 49)) w.heap.size (.slice (some ⟨w.heap.size, 0, none⟩) 0 0) [] :=
  ⟨rfl, .inr ⟨w.heap.size, 0, #[], rfl, Nat.le_refl _, heap_alloc_new w _, Nat.le_refl _, by simp [maxLen], rfl, rfl⟩⟩
theorem own_grown {w0 w w' : World} {B : Nat} {v : Value} {l : List (Nat × Nat)} (hM : Mod (fun _ => False) w0 w) (hg : w.grownBy w' v.ownBlock) (ho : OwnS w B v l) (hB : w0.heap.size ≤ B) : Mod (fun _ => False) w0 w' :=
  hM.grown hg (fun k hk hlt => by have := (World.ownsRow.lt ho k hk).1; omega)
theorem one_grown {w w' : World} {b g : Nat} {s : Nat × Nat} (h : SetV w (.slice (some ⟨b, 0, none⟩) 1 1) [s]) (hg : w.grownBy w' (some g)) (hne : b ≠ g) : SetV w' (.slice (some ⟨b, 0, none⟩) 1 1) [s] := by
  have hM : Mod (fun j => j = g) w w' := (Mod.refl _ _).grown hg (fun k hk _ => by simp at hk; exact hk.symm)
  exact hM.sl h (fun _ g' hg' e => by simp [blockOf] at hg'; omega)

set_option maxHeartbeats 8000000 in
set_option maxRecDepth 10000 in
theorem setlaw_any {w : World} {v : Value} {l : List (Nat × Nat)} (hT : Tabs w) (hU : UTabs w) (hv : SetV w v l) :
    Calls Tryd.prog 9 #[v] w fun e w' => e = .returned (.bool true) ∧ Below w.heap.size w w' := by
  have HT := Lib.hid hT
  have HU := Lib.hid hU
  have HV := Lib.hid hv
  obtain ⟨a, cap, rfl, _⟩ := set_val hv
  obtain ⟨n, hn⟩ : ∃ n, n = l.length := ⟨_, rfl⟩
  rw [← hn]
  have HN := Lib.hid hn
  clear hT hU hv hn
  by_cases hn30 : (n : Int) ≤ 30
  · have hk0 : ∀ X : World, Mod (fun _ => False) X (X.alloc (.cells #[.int .i64 4, .int .u64 0, .slice a n cap, .slice none 0 0] 26)) := fun X => (Mod.refl _ _).alloc _
    go_enter Tryd.func9, Tryd.ntmps9
    go_wp2_with fail
    refine (alive_any _ HT.out HU.out).mono ?_
    rintro e w1 ⟨rfl, hM1⟩
    have HB2 := Lib.hid (Blk.new w1 #[.int .i64 4, .int .u64 0, .slice a n cap, .slice none 0 0] 26)
    have HM2 := Lib.hid (hM1.trans (hk0 w1))
    have HV2 : Hid (HFV (w1.alloc (.cells #[.int .i64 4, .int .u64 0, .slice a n cap, .slice none 0 0] 26)) ⟨4, 0, l, []⟩ (.slice a n cap) (.slice none 0 0)) := ⟨by have := HV.out.kept HM2.out; rw [← HN.out] at this; exact this, Sl.nil _ _, by show (l.length : Int) ≤ _; have := HN.out; omega, by simp⟩
    have HG : Hid (w.heap.size ≤ w1.heap.size) := hM1.size
    clear hM1 hk0
    go_wp2_with fail
    refine (right_c (k := 4) (i := 0) HV2.out rfl rfl).mono ?_
    rintro e w3 ⟨rfl, hM3⟩
    generalize hR : rightH ⟨4, 0, l, []⟩ = R
    have HB3 := Lib.hid (hM3.blk HB2.out (fun h => h))
    have HV3 := Lib.hid (HV2.out.kept hM3)
    have HM3 := Lib.hid (HM2.out.trans hM3)
    clear hM3 HB2 HV2 HM2
    generalize w1.heap.size = gf at *
    cases R
    · clear hR
      go_wp2_with fail
      go_ret
      exact ⟨rfl, HM3.out.none_below⟩
    have HNX : Hid (nextL (hfputL ⟨4, 0, l, []⟩) = (⟨4, 0, l, []⟩, (hfputL ⟨4, 0, l, []⟩).length, 0)) := by have := put_next hR []; show nextL _ = _; simpa using this
    have HLN := Lib.hid (hput_len hR)
    clear hR
    obtain ⟨L, hL⟩ : ∃ L, hfputL ⟨4, 0, l, []⟩ = L := ⟨_, rfl⟩
    rw [hL] at HNX HLN
    have HL := Lib.hid hL
    clear hL
    obtain ⟨m, hm⟩ : ∃ m, L.length = m := ⟨_, rfl⟩
    rw [hm] at HNX HLN
    have HLM := Lib.hid hm
    clear hm
    have c0 := HB3.out.cellAt 0 rfl
    have c1 := HB3.out.cellAt 1 rfl
    have c2 := HB3.out.cellAt 2 rfl
    have c3 := HB3.out.cellAt 3 rfl
    go_wp2_with fail
    refine (hput_c (k := 4) (i := 0) (HM3.out.tabs HT.out (fun h => h)) HV3.out HL.out HLM.out rfl rfl).mono ?_
    rintro e w4 ⟨a4, c4, rfl, ho4, hM4⟩
    have HO4 := Lib.hid ho4.byts
    have HB4 := Lib.hid (hM4.blk HB3.out (fun h => h))
    have HV4 := Lib.hid (HV3.out.kept hM4)
    have HM4 := Lib.hid (HM3.out.trans hM4)
    clear c0 c1 c2 c3 ho4 hM4 HB3 HV3 HM3
    go_wp2_with fail
    refine (next_c 4 0 (m : Int) n 0 HO4.out (by have := HLN.out; have := HLM.out; omega) HNX.out rfl rfl rfl HN.out.symm rfl).mono ?_
    rintro e w5 ⟨sa, sc, da, dc, rfl, hv5, hM5⟩
    have hk6 : Mod (fun _ => False) w5 (w5.alloc (.cells #[.int .i64 4, .int .u64 0, .slice sa n sc, .slice da 0 dc] 26)) := (Mod.refl _ _).alloc _
    have HV6 := Lib.hid (hv5.kept hk6)
    have HW6 := Lib.hid ((HV4.out.kept hM5).kept hk6)
    have hB6 := hk6.blk (hM5.blk HB4.out (fun h => h)) (fun h => h)
    have HM6 := Lib.hid ((HM4.out.trans hM5).trans hk6)
    have HB6 := Lib.hid hB6
    have c0 := hB6.cellAt 0 rfl
    have c1 := hB6.cellAt 1 rfl
    have c2 := hB6.cellAt 2 rfl
    have c3 := hB6.cellAt 3 rfl
    clear hv5 hM5 hk6 hB6 HV4 HB4 HM4 HO4
    go_wp2_with fail
    refine (hsame_c (k := 4) (i := 0) (k' := 4) (i' := 0) HW6.out HV6.out rfl rfl rfl rfl).mono ?_
    rintro e wx ⟨rfl, hM7⟩
    rw [sameHF_self]
    have hBx := hM7.blk HB6.out (fun h => h)
    have HMx := Lib.hid (HM6.out.trans hM7)
    clear c0 c1 c2 c3 hM7 HV6 HW6 HB6 HM6
    by_cases hn0 : (n : Int) = 0
    · go_wp2_with fail
      go_ret
      exact ⟨rfl, HMx.out.none_below⟩
    obtain ⟨lb, lo, cp0, hv0, _, _, hcs⟩ := set_addr HV.out (by intro h0; have := HN.out; rw [h0] at this; simp at this; omega)
    simp only [Value.slice.injEq] at hv0
    obtain ⟨rfl, _, rfl⟩ := hv0
    obtain ⟨s, hs⟩ : ∃ s, l[0]? = some s := ⟨_, List.getElem?_eq_getElem (by have := HN.out; omega)⟩
    obtain ⟨g0, g1⟩ := hcs 0 s hs
    have hlb : lb < w.heap.size := block_lt_of_cell g0
    have HS := Lib.hid hs
    have hgf : w.heap.size ≤ gf := HG.out
    have x0 : wx.cell? ⟨lb, lo, none⟩ = some (.int .u64 (s.1 : Int)) := by have := HMx.out.cellAt g0 (fun h => h); simpa using this
    have x1 : wx.cell? ⟨lb, lo + 1, none⟩ = some (.int .u64 (s.2 : Int)) := by have := HMx.out.cellAt g1 (fun h => h); simpa using this
    have hvx : SetV wx (.slice (some ⟨lb, lo, none⟩) n cap) l := by have := HV.out.kept HMx.out; rw [← HN.out] at this; exact this
    have hnp : (0 : Int) < n := by omega
    have hnz : ¬ n = 0 := by omega
    have hd : Mod (fun _ => False) wx wx.drew := (Mod.refl _ _).drew
    have x0d := hd.cellAt x0 (fun h => h)
    have x1d := hd.cellAt x1 (fun h => h)
    clear g0 g1 hs hcs
    go_wp2_with fail
    refine wp_region_held_drew (S := fun X => X.cell? ⟨lb, lo, none⟩ = some (.int .u64 (s.1 : Int)) ∧ X.cell? ⟨lb, lo + 1, none⟩ = some (.int .u64 (s.2 : Int)) ∧ True) (by kernel_rfl) ⟨x0d, x1d, trivial⟩ (fun hS => ?_)
    refine wpAnyH_take (i := 1) (v := .slice (some ⟨lb, lo, none⟩) n cap) rfl (by kernel_rfl) (by kernel_rfl) (by kernel_rfl) (fun _ _ _ h => h) (Or.inl ⟨by rfl, fun X hX => ?_⟩) hS ?_
    · go_simp
    refine wpAnyH_take (i := 3) (v := .slice (some ⟨lb, lo, none⟩) n cap) rfl (by kernel_rfl) (by kernel_rfl) (by kernel_rfl) (fun _ _ _ h => h) (Or.inl ⟨by rfl, fun X hX => ?_⟩) hS ?_
    · go_simp
    refine wpAnyH_take (i := 4) (v := .pointer (some ⟨lb, lo, none⟩)) rfl (by kernel_rfl) (by kernel_rfl) (by kernel_rfl) (fun _ _ _ h => h) (Or.inl ⟨by rfl, fun X hX => ?_⟩) hS ?_
    · go_simp
    refine wpAnyH_take (i := 5) (v := .agg #[.int .u64 (s.1 : Int), .int .u64 (s.2 : Int)]) rfl (by kernel_rfl) (by kernel_rfl) (by kernel_rfl) (fun _ _ _ h => h) (Or.inl ⟨by rfl, fun X hX => ?_⟩) hS ?_
    · have := hX.1; have := hX.2.1; go_simp
    refine wpAnyH_ready (rs := [0, 6]) (by kernel_rfl) (by simp) ?_
    refine (AllReadyH.cons rfl (fun K hK => ?_) (AllReadyH.cons rfl (fun K hK => ?_) AllReadyH.nil))
    · go_simp
      have k1 : Mod (fun _ => False) wx.drew (wx.drew.alloc (.cells #[] 49)) := (Mod.refl _ _).alloc _
      have m1 := hd.trans k1
      have o1 := own_none wx.drew
      refine hK.out _ _ ⟨m1.cellAt x0 (fun h => h), m1.cellAt x1 (fun h => h), trivial⟩ (fun hS => ?_)
      clear hK K
      refine wpAnyH_ready (rs := [2, 6]) (by kernel_rfl) (by simp) ?_
      refine (AllReadyH.cons rfl (fun K hK => ?_) (AllReadyH.cons rfl (fun K hK => ?_) AllReadyH.nil))
      · refine step_append_ss rfl (.tmp 37) (.tmp 38) (by rfl) (.slice (some ⟨wx.heap.size, 0, none⟩) 0 0) [] (wx.heap.size) (by rfl) o1 _ l (by rfl) (hvx.kept m1) n (by have := HN.out; simp; omega) (by omega) (by simp; try omega) l rfl ?_
        intro ap2 cp2 Y2 o2 g2
        have m2 := own_grown m1 g2 o1 (by simp; try omega)
        refine hK.out _ _ ⟨m2.cellAt x0 (fun h => h), m2.cellAt x1 (fun h => h), trivial⟩ (fun hS => ?_)
        clear hK K
        refine wpAnyH_ready (rs := [6]) (by kernel_rfl) (by simp) ?_
        refine (AllReadyH.cons rfl (fun K hK => ?_) AllReadyH.nil)
        go_simp
        have k3 : Mod (fun _ => False) Y2 (Y2.alloc (.cells #[.int .u64 (s.1 : Int), .int .u64 (s.2 : Int)] 49)) := (Mod.refl _ _).alloc _
        have m3 := m2.trans k3
        have l3 := set_one Y2 s
        have o3 := o2.alloc (.cells #[.int .u64 (s.1 : Int), .int .u64 (s.2 : Int)] 49)
        refine hK.out _ _ ⟨m3.cellAt x0 (fun h => h), m3.cellAt x1 (fun h => h), trivial⟩ (fun hS => ?_)
        clear hK K
        have oq : OwnS (Y2.alloc (.cells #[.int .u64 (s.1 : Int), .int .u64 (s.2 : Int)] 49)) wx.heap.size (.slice ap2 n cp2) l := own_mono o3 (by omega)
        refine wpAnyH_ready (rs := [7]) (by kernel_rfl) (by simp) ?_
        refine (AllReadyH.cons rfl (fun K hK => ?_) AllReadyH.nil)
        refine step_append_ss rfl (.tmp 39) (.tmp 43) (by rfl) (.slice ap2 n cp2) l (wx.heap.size) (by rfl) oq _ [s] (by rfl) l3 (n + 1) (by have := HN.out; simp; omega) (by omega) (by have := m3.size; simpa using this) (l ++ [s]) rfl ?_
        intro ap9 cp9 Y9 o9 g9
        have m9 := own_grown m3 g9 oq (by simp; try omega)
        have b9 := m9.blk hBx (fun h => h)
        refine hK.out _ _ ⟨m9.cellAt x0 (fun h => h), m9.cellAt x1 (fun h => h), trivial⟩ (fun hS => ?_)
        clear hK K
        refine wpAnyH_take (i := 8) (v := .pointer (some ⟨gf, 2, none⟩)) rfl (by kernel_rfl) (by kernel_rfl) (by kernel_rfl) (fun _ _ _ h => h) (Or.inl ⟨by rfl, fun X hX => ?_⟩) hS ?_
        · go_simp
        refine wpAnyH_ready (rs := [9]) (by kernel_rfl) (by simp) ?_
        refine (AllReadyH.cons rfl (fun K hK => ?_) AllReadyH.nil)
        have c2 := b9.cellAt 2 rfl
        have z2 := b9.free 2
        go_simp
        clear c2 z2
        have mZ : Mod (fun j => j = gf) Y9 (Y9.setCell ⟨gf, 2, none⟩ (.slice ap9 (n + 1) cp9)) := (Mod.refl (fun j => j = gf) Y9).setCell (p := ⟨gf, 2, none⟩) (fun _ => rfl) _
        have bZ := b9.set 2 (.slice ap9 (n + 1) cp9)
        have HOZ := Lib.hid (o9.kept mZ (fun g hg e => o9.apart b9 (by decide) (by rw [hg, e])))
        have HMZ := Lib.hid ((HMx.out.trans m9).trans' mZ (fun i hi e => by have := hgf; omega))
        have HBZ := Lib.hid bZ
        have hneq : lb ≠ gf := by have := hlb; have := hgf; omega
        refine hK.out _ _ ⟨mZ.cellAt (m9.cellAt x0 (fun h => h)) hneq, mZ.cellAt (m9.cellAt x1 (fun h => h)) hneq, trivial⟩ (fun hS => ?_)
        clear hK K
        refine wpAnyH_done (by kernel_rfl) ?_ _
        clear hS mZ bZ hd
        generalize (Y9.setCell ⟨gf, 2, none⟩ (.slice ap9 (n + 1) cp9)) = Z at *
        have c0 := HBZ.out.cellAt 0 rfl
        have c1 := HBZ.out.cellAt 1 rfl
        have c2 := HBZ.out.cellAt 2 rfl
        have c3 := HBZ.out.cellAt 3 rfl
        have HVZ : Hid (HFV Z ⟨4, 0, l ++ [s], []⟩ (.slice ap9 (n + 1) cp9) (.slice none 0 0)) := ⟨by have := HOZ.out.setv; exact this, Sl.nil _ _, by show ((l ++ [s]).length : Int) ≤ _; rw [List.length_append]; have := HN.out; simp; omega, by simp⟩
        obtain ⟨t1, t2⟩ := twice_none l s (List.mem_of_getElem? HS.out)
        have HT1 := Lib.hid t1
        have HT2 := Lib.hid t2
        clear t1 t2
        go_simp
        go_wp2_with fail
        refine (right_c (k := 4) (i := 0) HVZ.out rfl rfl).mono ?_
        rintro e w20 ⟨rfl, hM20⟩
        rw [HT1.out]
        have hB20 := hM20.blk HBZ.out (fun h => h)
        have c0 := hB20.cellAt 0 rfl
        have c1 := hB20.cellAt 1 rfl
        have c2 := hB20.cellAt 2 rfl
        have c3 := hB20.cellAt 3 rfl
        have HV20 := Lib.hid (HVZ.out.kept hM20)
        have HM20 := Lib.hid (HMZ.out.trans hM20)
        clear hM20 hB20
        go_wp2_with fail
        refine (hput_c (k := 4) (i := 0) (HM20.out.tabs HT.out (fun h => h)) HV20.out HT2.out rfl rfl rfl).mono ?_
        rintro e w21 ⟨a21, c21, rfl, _, hM21⟩
        have HM21 := Lib.hid (HM20.out.trans hM21)
        clear hM21
        go_wp2_with fail
        go_ret
        exact ⟨rfl, HM21.out.none_below⟩
      · go_simp
        have k2 : Mod (fun _ => False) (wx.drew.alloc (.cells #[] 49)) ((wx.drew.alloc (.cells #[] 49)).alloc (.cells #[.int .u64 (s.1 : Int), .int .u64 (s.2 : Int)] 49)) := (Mod.refl _ _).alloc _
        have m2 := m1.trans k2
        have l2 := set_one (wx.drew.alloc (.cells #[] 49)) s
        rw [show (wx.drew.alloc (.cells #[] 49)).heap.size = wx.heap.size + 1 by simp] at l2
        have o2 := o1.alloc (.cells #[.int .u64 (s.1 : Int), .int .u64 (s.2 : Int)] 49)
        refine hK.out _ _ ⟨m2.cellAt x0 (fun h => h), m2.cellAt x1 (fun h => h), trivial⟩ (fun hS => ?_)
        clear hK K
        refine wpAnyH_ready (rs := [2]) (by kernel_rfl) (by simp) ?_
        refine (AllReadyH.cons rfl (fun K hK => ?_) AllReadyH.nil)
        refine step_append_ss rfl (.tmp 37) (.tmp 38) (by rfl) (.slice (some ⟨wx.heap.size, 0, none⟩) 0 0) [] (wx.heap.size) (by rfl) o2 _ l (by rfl) (hvx.kept m2) n (by have := HN.out; simp; omega) (by omega) (by simp; try omega) l rfl ?_
        intro ap3 cp3 Y3 o3 g3
        have m3 := own_grown m2 g3 o2 (by simp; try omega)
        have l3 := one_grown (b := wx.heap.size + 1) (g := wx.heap.size) l2 g3 (by omega)
        refine hK.out _ _ ⟨m3.cellAt x0 (fun h => h), m3.cellAt x1 (fun h => h), trivial⟩ (fun hS => ?_)
        clear hK K
        have oq : OwnS Y3 wx.heap.size (.slice ap3 n cp3) l := own_mono o3 (by omega)
        refine wpAnyH_ready (rs := [7]) (by kernel_rfl) (by simp) ?_
        refine (AllReadyH.cons rfl (fun K hK => ?_) AllReadyH.nil)
        refine step_append_ss rfl (.tmp 39) (.tmp 43) (by rfl) (.slice ap3 n cp3) l (wx.heap.size) (by rfl) oq _ [s] (by rfl) l3 (n + 1) (by have := HN.out; simp; omega) (by omega) (by have := m3.size; simpa using this) (l ++ [s]) rfl ?_
        intro ap9 cp9 Y9 o9 g9
        have m9 := own_grown m3 g9 oq (by simp; try omega)
        have b9 := m9.blk hBx (fun h => h)
        refine hK.out _ _ ⟨m9.cellAt x0 (fun h => h), m9.cellAt x1 (fun h => h), trivial⟩ (fun hS => ?_)
        clear hK K
        refine wpAnyH_take (i := 8) (v := .pointer (some ⟨gf, 2, none⟩)) rfl (by kernel_rfl) (by kernel_rfl) (by kernel_rfl) (fun _ _ _ h => h) (Or.inl ⟨by rfl, fun X hX => ?_⟩) hS ?_
        · go_simp
        refine wpAnyH_ready (rs := [9]) (by kernel_rfl) (by simp) ?_
        refine (AllReadyH.cons rfl (fun K hK => ?_) AllReadyH.nil)
        have c2 := b9.cellAt 2 rfl
        have z2 := b9.free 2
        go_simp
        clear c2 z2
        have mZ : Mod (fun j => j = gf) Y9 (Y9.setCell ⟨gf, 2, none⟩ (.slice ap9 (n + 1) cp9)) := (Mod.refl (fun j => j = gf) Y9).setCell (p := ⟨gf, 2, none⟩) (fun _ => rfl) _
        have bZ := b9.set 2 (.slice ap9 (n + 1) cp9)
        have HOZ := Lib.hid (o9.kept mZ (fun g hg e => o9.apart b9 (by decide) (by rw [hg, e])))
        have HMZ := Lib.hid ((HMx.out.trans m9).trans' mZ (fun i hi e => by have := hgf; omega))
        have HBZ := Lib.hid bZ
        have hneq : lb ≠ gf := by have := hlb; have := hgf; omega
        refine hK.out _ _ ⟨mZ.cellAt (m9.cellAt x0 (fun h => h)) hneq, mZ.cellAt (m9.cellAt x1 (fun h => h)) hneq, trivial⟩ (fun hS => ?_)
        clear hK K
        refine wpAnyH_done (by kernel_rfl) ?_ _
        clear hS mZ bZ hd
        generalize (Y9.setCell ⟨gf, 2, none⟩ (.slice ap9 (n + 1) cp9)) = Z at *
        have c0 := HBZ.out.cellAt 0 rfl
        have c1 := HBZ.out.cellAt 1 rfl
        have c2 := HBZ.out.cellAt 2 rfl
        have c3 := HBZ.out.cellAt 3 rfl
        have HVZ : Hid (HFV Z ⟨4, 0, l ++ [s], []⟩ (.slice ap9 (n + 1) cp9) (.slice none 0 0)) := ⟨by have := HOZ.out.setv; exact this, Sl.nil _ _, by show ((l ++ [s]).length : Int) ≤ _; rw [List.length_append]; have := HN.out; simp; omega, by simp⟩
        obtain ⟨t1, t2⟩ := twice_none l s (List.mem_of_getElem? HS.out)
        have HT1 := Lib.hid t1
        have HT2 := Lib.hid t2
        clear t1 t2
        go_simp
        go_wp2_with fail
        refine (right_c (k := 4) (i := 0) HVZ.out rfl rfl).mono ?_
        rintro e w20 ⟨rfl, hM20⟩
        rw [HT1.out]
        have hB20 := hM20.blk HBZ.out (fun h => h)
        have c0 := hB20.cellAt 0 rfl
        have c1 := hB20.cellAt 1 rfl
        have c2 := hB20.cellAt 2 rfl
        have c3 := hB20.cellAt 3 rfl
        have HV20 := Lib.hid (HVZ.out.kept hM20)
        have HM20 := Lib.hid (HMZ.out.trans hM20)
        clear hM20 hB20
        go_wp2_with fail
        refine (hput_c (k := 4) (i := 0) (HM20.out.tabs HT.out (fun h => h)) HV20.out HT2.out rfl rfl rfl).mono ?_
        rintro e w21 ⟨a21, c21, rfl, _, hM21⟩
        have HM21 := Lib.hid (HM20.out.trans hM21)
        clear hM21
        go_wp2_with fail
        go_ret
        exact ⟨rfl, HM21.out.none_below⟩
    · go_simp
      have k1 : Mod (fun _ => False) wx.drew (wx.drew.alloc (.cells #[.int .u64 (s.1 : Int), .int .u64 (s.2 : Int)] 49)) := (Mod.refl _ _).alloc _
      have m1 := hd.trans k1
      have l1 := set_one wx.drew s
      refine hK.out _ _ ⟨m1.cellAt x0 (fun h => h), m1.cellAt x1 (fun h => h), trivial⟩ (fun hS => ?_)
      clear hK K
      refine wpAnyH_ready (rs := [0]) (by kernel_rfl) (by simp) ?_
      refine (AllReadyH.cons rfl (fun K hK => ?_) AllReadyH.nil)
      go_simp
      have k2 : Mod (fun _ => False) (wx.drew.alloc (.cells #[.int .u64 (s.1 : Int), .int .u64 (s.2 : Int)] 49)) ((wx.drew.alloc (.cells #[.int .u64 (s.1 : Int), .int .u64 (s.2 : Int)] 49)).alloc (.cells #[] 49)) := (Mod.refl _ _).alloc _
      have m2 := m1.trans k2
      have o2 := own_none (wx.drew.alloc (.cells #[.int .u64 (s.1 : Int), .int .u64 (s.2 : Int)] 49))
      rw [show (wx.drew.alloc (.cells #[.int .u64 (s.1 : Int), .int .u64 (s.2 : Int)] 49)).heap.size = wx.heap.size + 1 by simp] at o2
      have l2 := l1.kept k2
      refine hK.out _ _ ⟨m2.cellAt x0 (fun h => h), m2.cellAt x1 (fun h => h), trivial⟩ (fun hS => ?_)
      clear hK K
      refine wpAnyH_ready (rs := [2]) (by kernel_rfl) (by simp) ?_
      refine (AllReadyH.cons rfl (fun K hK => ?_) AllReadyH.nil)
      refine step_append_ss rfl (.tmp 37) (.tmp 38) (by rfl) (.slice (some ⟨wx.heap.size + 1, 0, none⟩) 0 0) [] (wx.heap.size + 1) (by rfl) o2 _ l (by rfl) (hvx.kept m2) n (by have := HN.out; simp; omega) (by omega) (by simp; try omega) l rfl ?_
      intro ap3 cp3 Y3 o3 g3
      have m3 := own_grown m2 g3 o2 (by simp; try omega)
      have l3 := one_grown (b := wx.heap.size) (g := wx.heap.size + 1) l2 g3 (by omega)
      refine hK.out _ _ ⟨m3.cellAt x0 (fun h => h), m3.cellAt x1 (fun h => h), trivial⟩ (fun hS => ?_)
      clear hK K
      have oq : OwnS Y3 wx.heap.size (.slice ap3 n cp3) l := own_mono o3 (by omega)
      refine wpAnyH_ready (rs := [7]) (by kernel_rfl) (by simp) ?_
      refine (AllReadyH.cons rfl (fun K hK => ?_) AllReadyH.nil)
      refine step_append_ss rfl (.tmp 39) (.tmp 43) (by rfl) (.slice ap3 n cp3) l (wx.heap.size) (by rfl) oq _ [s] (by rfl) l3 (n + 1) (by have := HN.out; simp; omega) (by omega) (by have := m3.size; simpa using this) (l ++ [s]) rfl ?_
      intro ap9 cp9 Y9 o9 g9
      have m9 := own_grown m3 g9 oq (by simp; try omega)
      have b9 := m9.blk hBx (fun h => h)
      refine hK.out _ _ ⟨m9.cellAt x0 (fun h => h), m9.cellAt x1 (fun h => h), trivial⟩ (fun hS => ?_)
      clear hK K
      refine wpAnyH_take (i := 8) (v := .pointer (some ⟨gf, 2, none⟩)) rfl (by kernel_rfl) (by kernel_rfl) (by kernel_rfl) (fun _ _ _ h => h) (Or.inl ⟨by rfl, fun X hX => ?_⟩) hS ?_
      · go_simp
      refine wpAnyH_ready (rs := [9]) (by kernel_rfl) (by simp) ?_
      refine (AllReadyH.cons rfl (fun K hK => ?_) AllReadyH.nil)
      have c2 := b9.cellAt 2 rfl
      have z2 := b9.free 2
      go_simp
      clear c2 z2
      have mZ : Mod (fun j => j = gf) Y9 (Y9.setCell ⟨gf, 2, none⟩ (.slice ap9 (n + 1) cp9)) := (Mod.refl (fun j => j = gf) Y9).setCell (p := ⟨gf, 2, none⟩) (fun _ => rfl) _
      have bZ := b9.set 2 (.slice ap9 (n + 1) cp9)
      have HOZ := Lib.hid (o9.kept mZ (fun g hg e => o9.apart b9 (by decide) (by rw [hg, e])))
      have HMZ := Lib.hid ((HMx.out.trans m9).trans' mZ (fun i hi e => by have := hgf; omega))
      have HBZ := Lib.hid bZ
      have hneq : lb ≠ gf := by have := hlb; have := hgf; omega
      refine hK.out _ _ ⟨mZ.cellAt (m9.cellAt x0 (fun h => h)) hneq, mZ.cellAt (m9.cellAt x1 (fun h => h)) hneq, trivial⟩ (fun hS => ?_)
      clear hK K
      refine wpAnyH_done (by kernel_rfl) ?_ _
      clear hS mZ bZ hd
      generalize (Y9.setCell ⟨gf, 2, none⟩ (.slice ap9 (n + 1) cp9)) = Z at *
      have c0 := HBZ.out.cellAt 0 rfl
      have c1 := HBZ.out.cellAt 1 rfl
      have c2 := HBZ.out.cellAt 2 rfl
      have c3 := HBZ.out.cellAt 3 rfl
      have HVZ : Hid (HFV Z ⟨4, 0, l ++ [s], []⟩ (.slice ap9 (n + 1) cp9) (.slice none 0 0)) := ⟨by have := HOZ.out.setv; exact this, Sl.nil _ _, by show ((l ++ [s]).length : Int) ≤ _; rw [List.length_append]; have := HN.out; simp; omega, by simp⟩
      obtain ⟨t1, t2⟩ := twice_none l s (List.mem_of_getElem? HS.out)
      have HT1 := Lib.hid t1
      have HT2 := Lib.hid t2
      clear t1 t2
      go_simp
      go_wp2_with fail
      refine (right_c (k := 4) (i := 0) HVZ.out rfl rfl).mono ?_
      rintro e w20 ⟨rfl, hM20⟩
      rw [HT1.out]
      have hB20 := hM20.blk HBZ.out (fun h => h)
      have c0 := hB20.cellAt 0 rfl
      have c1 := hB20.cellAt 1 rfl
      have c2 := hB20.cellAt 2 rfl
      have c3 := hB20.cellAt 3 rfl
      have HV20 := Lib.hid (HVZ.out.kept hM20)
      have HM20 := Lib.hid (HMZ.out.trans hM20)
      clear hM20 hB20
      go_wp2_with fail
      refine (hput_c (k := 4) (i := 0) (HM20.out.tabs HT.out (fun h => h)) HV20.out HT2.out rfl rfl rfl).mono ?_
      rintro e w21 ⟨a21, c21, rfl, _, hM21⟩
      have HM21 := Lib.hid (HM20.out.trans hM21)
      clear hM21
      go_wp2_with fail
      go_ret
      exact ⟨rfl, HM21.out.none_below⟩
  · go_enter Tryd.func9, Tryd.ntmps9
    go_wp2_with fail
    refine (alive_any _ HT.out HU.out).mono ?_
    rintro e w1 ⟨rfl, hM1⟩
    have HM2 := Lib.hid (hM1.alloc (.cells #[.int .i64 4, .int .u64 0, .slice a n cap, .slice none 0 0] 26))
    clear hM1
    go_wp2_with fail
    go_ret
    exact ⟨rfl, HM2.out.none_below⟩
end Go.Proofs.YtcnpiclpdgkngaaDoor
