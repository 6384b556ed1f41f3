/- The laws' example, walked. -/
import Derived.Test.YtcnpiclpdgkngaaDoorFaU
import Derived.Test.YtcnpiclpdgkngaaDoorFaN
import Derived.Test.YtcnpiclpdgkngaaDoorFaM
import Derived.Test.YtcnpiclpdgkngaaDoorVarT
namespace Go.Proofs.YtcnpiclpdgkngaaDoor
open Go.RowKit

def hS : HF := ⟨4, 0, [(6, 100)], []⟩
def hG : HF := ⟨7, 4, [], []⟩
theorem put_hS : hfputL hS = [4, 3, 6, 64, 100] := by kernel_rfl
theorem next_hS : nextL [4, 3, 6, 64, 100, 1] = (hS, 5, 0) := by kernel_rfl
theorem next_33 : nextL [33, 1, 5] = (HF.zero, 3, 6) := by kernel_rfl
theorem put_hG : hfputL hG = [7, 1, 4] := by kernel_rfl
theorem pack_ab : packL [⟨[97], [98]⟩] = [32, 1, 97, 1, 98] := by kernel_rfl
theorem unpack_ab : unpackL 34 [] ⟨[32, 1, 97, 1, 98], 0⟩ = ([⟨[97], [98]⟩], 0) := by kernel_rfl
theorem right_hS : rightH hS = true := by kernel_rfl
theorem same_hS : sameHF hS hS = true := by kernel_rfl
theorem fields_ab : fieldsB [⟨[97], [98]⟩] = true := by kernel_rfl
theorem fields_A : fieldsB [⟨[65], []⟩] = false := by kernel_rfl

theorem ok_ab : FdsOk [⟨[97], [98]⟩] := by intro f hf; have := List.mem_singleton.1 hf; subst this; decide
theorem ok_A : FdsOk [⟨[65], []⟩] := by intro f hf; have := List.mem_singleton.1 hf; subst this; decide
theorem hput_c {w : World} {f : HF} {vs vd : Value} {L : List UInt8} {n : Nat} {k i : Int} (hT : Tabs w) (hv : HFV w f vs vd) (hL : hfputL f = L) (hn : L.length = n) (hk : f.k = k) (hi : (f.id : Int) = i) : Calls Tryd.prog 15 #[.agg #[.int .i64 k, .int .u64 i, vs, vd]] w fun e w' => ∃ a c, e = .returned (.slice a n c) ∧ OwnB w' w.heap.size (.slice a n c) L ∧ Mod (fun _ => False) w w' := by
  subst hL hn hk hi
  refine (show Calls Tryd.prog 15 #[hfA f vs vd] w _ from hput_any hT hv).mono ?_
  rintro e w' ⟨v, rfl, ho, hM⟩
  obtain ⟨a, c, rfl, _⟩ := byts_val ho.byts
  exact ⟨a, c, rfl, ho, hM⟩
theorem next_c {w : World} {v : Value} {b : List UInt8} (k i m : Int) (ns nd : Nat) {f : HF} {n : Nat} {z : Int} (h : Byts w v b) (hl : (b.length : Int) ≤ 100000) (hq : nextL b = (f, n, z)) (hk : f.k = k) (hi : (f.id : Int) = i) (hm : (n : Int) = m) (h1 : f.st.length = ns) (h2 : f.d.length = nd) : Calls Tryd.prog 19 #[v] w fun e w' => ∃ sa sc da dc, e = .returned (.tuple #[.agg #[.int .i64 k, .int .u64 i, .slice sa ns sc, .slice da nd dc], .int .i64 m, .int .i64 z]) ∧ HFV w' f (.slice sa ns sc) (.slice da nd dc) ∧ Mod (fun _ => False) w w' := by
  subst hk hi hm h1 h2
  refine (next_any h hl).mono ?_
  rintro e w' ⟨vs, vd, he, hv, hM⟩
  rw [hq] at he hv
  obtain ⟨sa, sc, rfl, _⟩ := set_val hv.st
  obtain ⟨da, dc, rfl, _⟩ := byts_val hv.d
  exact ⟨sa, sc, da, dc, he, hv, hM⟩
theorem right_c {w : World} {f : HF} {vs vd : Value} {k i : Int} (hv : HFV w f vs vd) (hk : f.k = k) (hi : (f.id : Int) = i) : Calls Tryd.prog 12 #[.agg #[.int .i64 k, .int .u64 i, vs, vd]] w fun e w' => e = .returned (.bool (rightH f)) ∧ Mod (fun _ => False) w w' := by
  subst hk hi
  exact right_any hv
theorem hsame_c {w : World} {f g : HF} {vs vd us ud : Value} {k i k' i' : Int} (hf : HFV w f vs vd) (hg : HFV w g us ud) (hk : f.k = k) (hi : (f.id : Int) = i) (hk' : g.k = k') (hi' : (g.id : Int) = i') : Calls Tryd.prog 17 #[.agg #[.int .i64 k, .int .u64 i, vs, vd], .agg #[.int .i64 k', .int .u64 i', us, ud]] w fun e w' => e = .returned (.bool (sameHF f g)) ∧ Mod (fun _ => False) w w' := by
  subst hk hi hk' hi'
  exact same_hf hf hg
theorem same_c {w : World} {a b : Value} {la lb : List UInt8} (ha : Byts w a la) (hb : Byts w b lb) : Calls Tryd.prog 14 #[a, b] w fun e w' => e = .returned (.bool (decide (la = lb))) ∧ Mod (fun _ => False) w w' := by
  refine (same_any ha hb).mono ?_
  rintro e w' ⟨⟨q, rfl⟩, rfl⟩
  exact ⟨rfl, (Mod.refl _ _).drewN q⟩
theorem unpack_c {w : World} {v : Value} {b : List UInt8} (n : Nat) {l : List Fd} {z : Int} (hn : l.length = n) (hU : UTabs w) (hv : Byts w v b) (hl : (b.length : Int) ≤ 100000) (hq : unpackL 34 [] ⟨b, 0⟩ = (l, z)) : Calls Tryd.prog 24 #[v] w fun e w' => ∃ a c, e = .returned (.tuple #[.slice a n c, .int .i64 z]) ∧ FldV w' (.slice a n c) l ∧ Mod (fun _ => False) w w' := by
  subst hn
  refine (unpack_any hU hv hl).mono ?_
  rintro e w' ⟨v', he, hf, hM⟩
  rw [hq] at he hf
  obtain ⟨a, c, rfl, _⟩ := fld_val hf
  exact ⟨a, c, he, hf, hM⟩
theorem pack_c {w : World} {v : Value} {l : List Fd} {L : List UInt8} {n : Nat} (hT : Tabs w) (hU : UTabs w) (hv : FldV w v l) (hn : (l.length : Int) ≤ 100000) (ho : FdsOk l) (hL : packL l = L) (hm : L.length = n) : Calls Tryd.prog 23 #[v] w fun e w' => ∃ a c, e = .returned (.slice a n c) ∧ OwnB w' w.heap.size (.slice a n c) L ∧ Mod (fun _ => False) w w' := by
  subst hL hm
  refine (pack_any hT hU hv hn ho).mono ?_
  rintro e w' ⟨v', rfl, ho, hM⟩
  obtain ⟨a, c, rfl, _⟩ := byts_val ho.byts
  exact ⟨a, c, rfl, ho, hM⟩
/-- The example's frame of settings, laid. -/
structure AlS (w0 w : World) : Prop where
  b : Blk w (w0.heap.size + 1) #[.int .i64 4, .int .u64 0, .slice (some ⟨w0.heap.size, 0, none⟩) 1 1, .slice none 0 0] 26
  v : HFV w hS (.slice (some ⟨w0.heap.size, 0, none⟩) 1 1) (.slice none 0 0)
  m : Mod (fun _ => False) w0 w
theorem AlS.kept {w0 w w' : World} (h : AlS w0 w) (hM : Mod (fun _ => False) w w') : AlS w0 w' := ⟨hM.blk h.b (fun h => h), h.v.kept hM, h.m.trans hM⟩
theorem AlS.made (w : World) : AlS w ((w.alloc (.cells #[.int .u64 6, .int .u64 100] 49)).alloc (.cells #[.int .i64 4, .int .u64 0, .slice (some ⟨w.heap.size, 0, none⟩) 1 1, .slice none 0 0] 26)) := by
  refine ⟨?_, ⟨?_, Sl.nil _ _, by decide, by decide⟩, ((Mod.refl _ _).alloc _).alloc _⟩
  · have := Blk.new (w.alloc (.cells #[.int .u64 6, .int .u64 100] 49)) #[.int .i64 4, .int .u64 0, .slice (some ⟨w.heap.size, 0, none⟩) 1 1, .slice none 0 0] 26
    rwa [show (w.alloc (.cells #[.int .u64 6, .int .u64 100] 49)).heap.size = w.heap.size + 1 by simp] at this
  · exact (show SetV (w.alloc (.cells #[.int .u64 6, .int .u64 100] 49)) _ _ from set_one w (6, 100)).kept ((Mod.refl _ _).alloc _)
set_option maxHeartbeats 4000000 in
set_option maxRecDepth 10000 in
theorem alive_any (w : World) (hT : Tabs w) (hU : UTabs w) : Calls Tryd.prog 10 #[] w fun e w' => e = .returned (.bool true) ∧ Mod (fun _ => False) w w' := by
  have HT := Lib.hid hT
  have HU := Lib.hid hU
  clear hT hU
  go_enter Tryd.func10, Tryd.ntmps10
  go_wp2_with fail
  have HA := Lib.hid (AlS.made w)
  generalize ((w.alloc _).alloc _) = w1 at *
  refine (hput_c (HA.out.m.tabs HT.out (fun h => h)) HA.out.v put_hS rfl rfl rfl).mono ?_
  rintro e w2 ⟨a2, c2, rfl, ho2, hM2⟩
  have HO2 := Lib.hid ho2
  have HM2 := Lib.hid hM2
  clear ho2 hM2
  have HZ2 : Hid (w1.heap.size ≤ (w2.alloc (.cells #[.int .u8 1] 5)).heap.size) := (HM2.out.alloc _).size
  go_wp2_with (first
    | ((with_reducible refine wpList_append_b ?_ (.tmp 15) (.tmp 16) ?_ (.slice a2 5 c2) [4, 3, 6, 64, 100] w1.heap.size 6 ?_ (HO2.out.alloc _) (.slice (some ⟨w2.heap.size, 0, none⟩) 1 1) [1] ?_ (byts_lit w2 [1] _ 1 rfl rfl (by decide)) [4, 3, 6, 64, 100, 1] rfl rfl ?_ HZ2.out ?_); (· exact rfl); (· exact rfl); (· exact rfl); (· exact rfl); (· omega); intro a3 c3 w3 hA3; have HA3 := Lib.hid (HA.out.kept (hA3.modF (HM2.out.alloc _) (Nat.le_refl _))); have HO3 := Lib.hid hA3.byts; clear hA3)
    | fail)
  clear HZ2 HO2 HM2 HA
  refine (next_c 4 0 5 1 0 HO3.out (by decide) next_hS rfl rfl rfl rfl rfl).mono ?_
  rintro e w4 ⟨sa, sc, da, dc, rfl, hv4, hM4⟩
  have HA4 := Lib.hid (HA3.out.kept hM4)
  have HV4 := Lib.hid hv4
  clear hv4 hM4 HA3 HO3
  go_wp2_with fail
  have hk5 : Mod (fun _ => False) w4 ((w4.alloc (.cells #[.int .i64 4, .int .u64 0, .slice sa 1 sc, .slice da 0 dc] 26)).alloc (.cells #[.int .u8 33, .int .u8 1, .int .u8 5] 5)) := ((Mod.refl _ _).alloc _).alloc _
  have HL5 := Lib.hid (byts_lit (w4.alloc (.cells #[.int .i64 4, .int .u64 0, .slice sa 1 sc, .slice da 0 dc] 26)) [33, 1, 5] _ 3 rfl rfl (by decide))
  rw [show (w4.alloc (.cells #[.int .i64 4, .int .u64 0, .slice sa 1 sc, .slice da 0 dc] 26)).heap.size = w4.heap.size + 1 by simp] at HL5
  have HB5 := Lib.hid ((Blk.new w4 #[.int .i64 4, .int .u64 0, .slice sa 1 sc, .slice da 0 dc] 26).alloc (.cells #[.int .u8 33, .int .u8 1, .int .u8 5] 5))
  have HA5 := Lib.hid (HA4.out.kept hk5)
  have HV5 := Lib.hid (HV4.out.kept hk5)
  refine (next_c 0 0 3 0 0 HL5.out (by decide) next_33 rfl rfl rfl rfl rfl).mono ?_
  rintro e w6 ⟨sa6, sc6, da6, dc6, rfl, hv6, hM6⟩
  have HA6 := Lib.hid (HA5.out.kept hM6)
  have HV6 := Lib.hid (HV5.out.kept hM6)
  have HB6 := Lib.hid (hM6.blk HB5.out (fun h => h))
  clear hv6 hM6 HA4 HV4 HL5 HA5 HV5 HB5 hk5
  generalize w4.heap.size = g2 at *
  go_wp2_with fail
  have hk7 : Mod (fun _ => False) w6 ((w6.alloc (.cells #[.int .i64 0, .int .u64 0, .slice sa6 0 sc6, .slice da6 0 dc6] 26)).alloc (.cells #[.string ⟨#[97]⟩, .string ⟨#[98]⟩] 52)) := ((Mod.refl _ _).alloc _).alloc _
  have HL7 : Hid (FldV ((w6.alloc (.cells #[.int .i64 0, .int .u64 0, .slice sa6 0 sc6, .slice da6 0 dc6] 26)).alloc (.cells #[.string ⟨#[97]⟩, .string ⟨#[98]⟩] 52)) (.slice (some ⟨w6.heap.size + 1, 0, none⟩) 1 1) [⟨[97], [98]⟩]) := by
    have := fld_one (w6.alloc (.cells #[.int .i64 0, .int .u64 0, .slice sa6 0 sc6, .slice da6 0 dc6] 26)) ⟨[97], [98]⟩
    rwa [show (w6.alloc (.cells #[.int .i64 0, .int .u64 0, .slice sa6 0 sc6, .slice da6 0 dc6] 26)).heap.size = w6.heap.size + 1 by simp] at this
  have HA7 := Lib.hid (HA6.out.kept hk7)
  refine (pack_c (HA7.out.m.tabs HT.out (fun h => h)) (HU.out.kept HA7.out.m) HL7.out (by decide) ok_ab pack_ab rfl).mono ?_
  rintro e w8 ⟨a8, c8, rfl, ho8, hM8⟩
  have hk8 := hk7.trans hM8
  have HA8 := Lib.hid (HA6.out.kept hk8)
  have HV8 := Lib.hid (HV6.out.kept hk8)
  have HB8 := Lib.hid (hk8.blk HB6.out (fun h => h))
  have HL8 := Lib.hid ho8.byts
  clear hk7 hk8 hM8 ho8 HA7 HL7 HA6 HV6 HB6
  go_wp2_with fail
  refine (unpack_c 1 rfl (HU.out.kept HA8.out.m) HL8.out (by decide) unpack_ab).mono ?_
  rintro e w9 ⟨a9, c9, rfl, hf9, hM9⟩
  obtain ⟨b9, o9, c9', hv9, hx1, hx2, hcs⟩ := fld_addr hf9 (by simp)
  simp only [Value.slice.injEq] at hv9
  obtain ⟨rfl, hx3, rfl⟩ := hv9
  have g9 := (hcs 0 _ rfl).2
  have G9 : Hid (w9.cell? ⟨b9, o9 + 1, none⟩ = some (.string ⟨#[98]⟩)) := g9
  clear g9
  clear hx1 hx2 hx3
  have HF9 : Hid (FldV w9 (.slice (some ⟨b9, o9, none⟩) 1 c9) [⟨[97], [98]⟩]) := hf9
  have HA9 := Lib.hid (HA8.out.kept hM9)
  have HV9 := Lib.hid (HV8.out.kept hM9)
  have HB9 := Lib.hid (hM9.blk HB8.out (fun h => h))
  clear hf9 hM9 HA8 HV8 HB8 HL8 hcs
  go_wp2_with fail
  refine (hput_c (k := 7) (i := 4) (f := hG) (HA9.out.m.tabs HT.out (fun h => h)) ⟨Sl.nil _ _, Sl.nil _ _, by decide, by decide⟩ put_hG rfl rfl rfl).mono ?_
  rintro e w10 ⟨a10, c10, rfl, ho10, hM10⟩
  have HO10 := Lib.hid ho10.byts
  have HM10 := Lib.hid hM10
  clear ho10 hM10
  go_wp2_with fail
  have hk11 : Mod (fun _ => False) w10 (w10.alloc (.cells #[.int .u8 7, .int .u8 1, .int .u8 4] 5)) := (Mod.refl _ _).alloc _
  refine (same_c (byts_kept HO10.out hk11) (byts_lit w10 [7, 1, 4] _ 3 rfl rfl (by decide))).mono ?_
  rintro e w11 ⟨rfl, hM11⟩
  rw [show decide (([7, 1, 4] : List UInt8) = [7, 1, 4]) = true from by decide]
  have hk := (HM10.out.trans hk11).trans hM11
  have g11 := hk.cellAt G9.out (fun h => h)
  have HF11 := Lib.hid (HF9.out.kept hk)
  have HA11 := Lib.hid (HA9.out.kept hk)
  have HV11 := Lib.hid (HV9.out.kept hk)
  have hB := hk.blk HB9.out (fun h => h)
  have p0 := hB.cellAt 0 rfl
  have p1 := hB.cellAt 1 rfl
  have p2 := hB.cellAt 2 rfl
  have p3 := hB.cellAt 3 rfl
  have q0 := HA11.out.b.cellAt 0 rfl
  have q1 := HA11.out.b.cellAt 1 rfl
  have q2 := HA11.out.b.cellAt 2 rfl
  have q3 := HA11.out.b.cellAt 3 rfl
  clear hk hk11 hM11 HM10 HO10 HF9 HA9 HV9 HB9 hB G9
  go_wp2_with fail
  refine (hsame_c (k := 4) (i := 0) (k' := 4) (i' := 0) HV11.out HA11.out.v rfl rfl rfl rfl).mono ?_
  rintro e w12 ⟨rfl, hM12⟩
  rw [same_hS]
  have g12 := hM12.cellAt g11 (fun h => h)
  have HF12 := Lib.hid (HF11.out.kept hM12)
  have HA12 := Lib.hid (HA11.out.kept hM12)
  have q0 := HA12.out.b.cellAt 0 rfl
  have q1 := HA12.out.b.cellAt 1 rfl
  have q2 := HA12.out.b.cellAt 2 rfl
  have q3 := HA12.out.b.cellAt 3 rfl
  clear HV11 HA11 HF11 g11 p0 p1 p2 p3 hM12
  go_wp2_with fail
  refine (right_c (k := 4) (i := 0) HA12.out.v rfl rfl).mono ?_
  rintro e w13 ⟨rfl, hM13⟩
  rw [right_hS]
  have HF13 := Lib.hid (HF12.out.kept hM13)
  have HM13 := Lib.hid (HA12.out.m.trans hM13)
  clear HA12 HF12 g12 hM13 q0 q1 q2 q3
  go_wp2_with fail
  refine (flds_any (HU.out.kept HM13.out) HF13.out (by decide) ok_ab).mono ?_
  rintro e w14 ⟨rfl, hM14⟩
  rw [fields_ab]
  have HM14 := Lib.hid (HM13.out.trans hM14)
  clear HM13 HF13 hM14
  go_wp2_with fail
  have hk15 : Mod (fun _ => False) w14 (w14.alloc (.cells #[.string ⟨#[65]⟩, .string ⟨#[]⟩] 52)) := (Mod.refl _ _).alloc _
  refine (flds_any (l := [⟨[65], []⟩]) (HU.out.kept (HM14.out.trans hk15)) (fld_one w14 ⟨[65], []⟩) (by decide) ok_A).mono ?_
  rintro e w16 ⟨rfl, hM16⟩
  rw [fields_A]
  have HM16 := Lib.hid ((HM14.out.trans hk15).trans hM16)
  clear HM14 hk15 hM16
  go_wp2_with fail
  go_ret
  exact ⟨rfl, HM16.out⟩
end Go.Proofs.YtcnpiclpdgkngaaDoor
