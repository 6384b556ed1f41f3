/- The statements' own first call: the document's examples. 'great'. -/
import Derived.Test.YtolbeamphmoimaaDoorHdS
import Derived.Test.YtolbeamphmoimaaDoorHdR
import Derived.Lib.SlBytesConst
namespace Go.Proofs.YtolbeamphmoimaaDoor
open Go.RowKit

theorem byts_lit_m (w : World) (l : List UInt8) (cs : Array Value) (n : Nat) (m : Nat × Nat) (hc : cs = (l.map bv).toArray) (hn : l.length = n) (hm : n ≤ maxLen) :
    Byts (w.alloc (.cells cs 5 m)) (.slice (some ⟨w.heap.size, 0, none⟩) n n) l := by
  subst hc; subst hn
  refine ⟨by simp, _, l.length, rfl, Nat.le_refl _, hm, fun h => by simp at h, fun j u hu => ⟨_, 0, rfl, ?_⟩⟩
  rw [Nat.zero_add]
  exact (cell_of_row _ w.heap.size j _ 5 m (heap_alloc_new w _)).trans (by simpa using hu)
theorem hput_s {w : World} {h : Hd} {d s t c : Value} {L : List UInt8} (hT : Tabs w) (hv : HdV w h d s t c) (hL : hputL h = L) :
    Calls Tryd.prog 15 #[hdV h d s t c] w fun e w' => ∃ a cp, e = .returned (.slice a L.length cp) ∧ OwnW w' w.heap.size (.slice a L.length cp) L ∧ Mod (fun _ => False) w w' := by
  subst hL
  refine (hput_any hT hv).mono ?_
  rintro e w' ⟨v, rfl, ho, hM⟩
  obtain ⟨a, cp, rfl, _⟩ := byts_val ho.byts
  exact ⟨a, cp, rfl, ho, hM⟩
theorem OwnW.keptF {w w' : World} {B : Nat} {v : Value} {l : List UInt8} (h : OwnW w B v l) (hM : Mod (fun _ => False) w w') : OwnW w' B v l := hM.ownW h (fun _ _ h => h)
theorem same_m {w : World} {a b : Value} {la lb : List UInt8} (ha : Byts w a la) (hb : Byts w b lb) :
    Calls Tryd.prog 14 #[a, b] w fun e w' => e = .returned (.bool (decide (la = lb))) ∧ Mod (fun _ => False) w w' :=
  (same_any ha hb).mono fun _ _ ⟨⟨q, hq⟩, he⟩ => ⟨he, Mod.ofHeap q hq.symm⟩
theorem parse_is {w : World} {v : Value} {l : List UInt8} {h : Hd} {n e : Int} (hb : Byts w v l) (hl : (l.length : Int) ≤ 5000) (hp : parseL l = (h, n, e)) :
    Calls Tryd.prog 19 #[v] w fun x w' => ∃ da dc sa sc ta tc ca cc, x = .returned (.tuple #[hdV h (.slice da h.dst.length dc) (.slice sa h.src.length sc) (.slice ta h.tok.length tc) (.slice ca h.cut.length cc), .int .i64 n, .int .i64 e]) ∧ HdV w' h (.slice da h.dst.length dc) (.slice sa h.src.length sc) (.slice ta h.tok.length tc) (.slice ca h.cut.length cc) ∧ Mod (fun _ => False) w w' ∧ HdO w' w.heap.size h (.slice da h.dst.length dc) (.slice sa h.src.length sc) (.slice ta h.tok.length tc) (.slice ca h.cut.length cc) := by
  have := parse_any hb hl
  rw [hp] at this
  refine this.mono ?_
  rintro x w' ⟨d, s, t, c, hx, hv, hM, hO⟩
  obtain ⟨da, dc, rfl, _⟩ := byts_val hv.d
  obtain ⟨sa, sc, rfl, _⟩ := byts_val hv.s
  obtain ⟨ta, tc, rfl, _⟩ := byts_val hv.t
  obtain ⟨ca, cc, rfl, _⟩ := byts_val hv.c
  exact ⟨da, dc, sa, sc, ta, tc, ca, cc, hx, hv, hM, hO⟩

set_option maxHeartbeats 4000000 in
set_option maxRecDepth 10000 in
theorem alive_any (w : World) (hT : Tabs w) : Calls Tryd.prog 10 #[] w fun e w' => e = .returned (.bool true) ∧ Mod (fun _ => False) w w' := by
  have HT := Lib.hid hT
  clear hT
  go_enter Tryd.func10, Tryd.ntmps10
  go_wp2_with fail
  have m0 : Mod (fun _ => False) w w := Mod.refl _ _
  have hD := byts_lit w [7, 7, 7, 7, 7, 7, 7, 7] _ 8 rfl rfl (by decide)
  have hC := byts_lit (w.alloc (.cells #[.int .u8 7, .int .u8 7, .int .u8 7, .int .u8 7, .int .u8 7, .int .u8 7, .int .u8 7, .int .u8 7] 5)) [9] _ 1 rfl rfl (by decide)
  rw [show ∀ o, (w.alloc o).heap.size = w.heap.size + 1 from fun o => by simp] at hC
  have hv0 : HdV _ sH _ _ _ _ := ⟨byts_kept hD (((Mod.refl _ _).alloc (.cells #[.int .u8 9] 5)).alloc (.cells #[.bool false, .bool false, .int .i64 0, .int .u32 0, .slice (some ⟨w.heap.size, 0, none⟩) 8 8, .slice none 0 0, .slice none 0 0, .slice (some ⟨w.heap.size + 1, 0, none⟩) 1 1, .int .i64 0] 25)), Sl.nil _ _, Sl.nil _ _, byts_kept hC ((Mod.refl _ _).alloc _), by decide, by decide, by decide, by decide, by decide, by decide, by decide⟩
  have HV0 := Lib.hid hv0
  have hM0 := Lib.hid (((m0.alloc (.cells #[.int .u8 7, .int .u8 7, .int .u8 7, .int .u8 7, .int .u8 7, .int .u8 7, .int .u8 7, .int .u8 7] 5)).alloc (.cells #[.int .u8 9] 5)).alloc (.cells #[.bool false, .bool false, .int .i64 0, .int .u32 0, .slice (some ⟨w.heap.size, 0, none⟩) 8 8, .slice none 0 0, .slice none 0 0, .slice (some ⟨w.heap.size + 1, 0, none⟩) 1 1, .int .i64 0] 25))
  have hBs := Blk.new ((w.alloc (.cells #[.int .u8 7, .int .u8 7, .int .u8 7, .int .u8 7, .int .u8 7, .int .u8 7, .int .u8 7, .int .u8 7] 5)).alloc (.cells #[.int .u8 9] 5)) #[.bool false, .bool false, .int .i64 0, .int .u32 0, .slice (some ⟨w.heap.size, 0, none⟩) 8 8, .slice none 0 0, .slice none 0 0, .slice (some ⟨w.heap.size + 1, 0, none⟩) 1 1, .int .i64 0] 25
  rw [show ∀ o o', ((w.alloc o).alloc o').heap.size = w.heap.size + 2 from fun o o' => by simp] at hBs
  have HBs := Lib.hid hBs
  clear hD hC hv0 hBs
  refine (hput_s (hM0.out.tabs HT.out (fun h => h)) HV0.out put_sH).mono ?_
  rintro e w1 ⟨a1, cp1, rfl, ho1, hM1⟩
  have HO1 := Lib.hid ho1
  have hM1' := Lib.hid (hM0.out.trans hM1)
  have HV1 := Lib.hid (HV0.out.kept hM1)
  have HB1 := Lib.hid (hM1.blk HBs.out (fun h => h))
  clear ho1 hM1 hM0 HV0 HBs
  simp only [List.length_cons, List.length_nil, Nat.reduceAdd] at HO1 ⊢
  have kc := fun (w : World) (C : Array Value) (n c : Nat) => Lib.run_convert_bytes_const (P := Tryd.prog) w 23 5 C n c Tryd.underlying23 Tryd.underlying5
  have kc2 := kc (w1.alloc (.cells #[.int .u8 97, .int .u8 98] 5 (2, 3))) #[.int .u8 99] 1 1
  rw [show ∀ o : Obj, (w1.alloc o).heap.size = w1.heap.size + 1 from fun o => by simp] at kc2
  have kc3 := kc ((w1.alloc (.cells #[.int .u8 97, .int .u8 98] 5 (2, 3))).alloc (.cells #[.int .u8 99] 5 (1, 2))) #[.int .u8 116] 1 1
  rw [show ∀ o o' : Obj, ((w1.alloc o).alloc o').heap.size = w1.heap.size + 1 + 1 from fun o o' => by simp] at kc3
  simp only [List.size_toArray, List.length_cons, List.length_nil, Nat.reduceAdd] at kc2 kc3
  go_wp2_with fail
  have n0 : Mod (fun _ => False) w1 w1 := Mod.refl _ _
  have n5 := Lib.hid ((((((n0.alloc (.cells #[.int .u8 97, .int .u8 98] 5 (2, 3))).alloc (.cells #[.int .u8 99] 5 (1, 2))).alloc (.cells #[.int .u8 116] 5 (1, 2))).alloc (.cells #[.int .u8 1, .int .u8 2] 5)).alloc (.cells #[.bool true, .bool false, .int .i64 0, .int .u32 1, .slice (some ⟨w1.heap.size, 0, none⟩) 2 2, .slice (some ⟨w1.heap.size + 1, 0, none⟩) 1 1, .slice (some ⟨w1.heap.size + 1 + 1, 0, none⟩) 1 1, .slice (some ⟨w1.heap.size + 1 + 1 + 1, 0, none⟩) 2 2, .int .i64 3] 25)))
  have x1 := byts_lit_m w1 [97, 98] _ 2 (2, 3) rfl rfl (by decide)
  have x2 := byts_lit_m (w1.alloc (.cells #[.int .u8 97, .int .u8 98] 5 (2, 3))) [99] _ 1 (1, 2) rfl rfl (by decide)
  have x3 := byts_lit_m ((w1.alloc (.cells #[.int .u8 97, .int .u8 98] 5 (2, 3))).alloc (.cells #[.int .u8 99] 5 (1, 2))) [116] _ 1 (1, 2) rfl rfl (by decide)
  have x4 := byts_lit (((w1.alloc (.cells #[.int .u8 97, .int .u8 98] 5 (2, 3))).alloc (.cells #[.int .u8 99] 5 (1, 2))).alloc (.cells #[.int .u8 116] 5 (1, 2))) [1, 2] _ 2 rfl rfl (by decide)
  have x5 := Blk.new ((((w1.alloc (.cells #[.int .u8 97, .int .u8 98] 5 (2, 3))).alloc (.cells #[.int .u8 99] 5 (1, 2))).alloc (.cells #[.int .u8 116] 5 (1, 2))).alloc (.cells #[.int .u8 1, .int .u8 2] 5)) #[.bool true, .bool false, .int .i64 0, .int .u32 1, .slice (some ⟨w1.heap.size, 0, none⟩) 2 2, .slice (some ⟨w1.heap.size + 1, 0, none⟩) 1 1, .slice (some ⟨w1.heap.size + 1 + 1, 0, none⟩) 1 1, .slice (some ⟨w1.heap.size + 1 + 1 + 1, 0, none⟩) 2 2, .int .i64 3] 25
  have z1 : ∀ o : Obj, (w1.alloc o).heap.size = w1.heap.size + 1 := fun o => by simp
  have z2 : ∀ o o' : Obj, ((w1.alloc o).alloc o').heap.size = w1.heap.size + 1 + 1 := fun o o' => by simp
  have z3 : ∀ o o' o2 : Obj, (((w1.alloc o).alloc o').alloc o2).heap.size = w1.heap.size + 1 + 1 + 1 := fun o o' o2 => by simp
  have z4 : ∀ o o' o2 o3 : Obj, ((((w1.alloc o).alloc o').alloc o2).alloc o3).heap.size = w1.heap.size + 1 + 1 + 1 + 1 := fun o o' o2 o3 => by simp
  rw [z1] at x2
  rw [z2] at x3
  rw [z3] at x4
  rw [z4] at x5
  have hv5 : HdV (((((w1.alloc (.cells #[.int .u8 97, .int .u8 98] 5 (2, 3))).alloc (.cells #[.int .u8 99] 5 (1, 2))).alloc (.cells #[.int .u8 116] 5 (1, 2))).alloc (.cells #[.int .u8 1, .int .u8 2] 5)).alloc (.cells #[.bool true, .bool false, .int .i64 0, .int .u32 1, .slice (some ⟨w1.heap.size, 0, none⟩) 2 2, .slice (some ⟨w1.heap.size + 1, 0, none⟩) 1 1, .slice (some ⟨w1.heap.size + 1 + 1, 0, none⟩) 1 1, .slice (some ⟨w1.heap.size + 1 + 1 + 1, 0, none⟩) 2 2, .int .i64 3] 25)) lH (.slice (some ⟨w1.heap.size, 0, none⟩) 2 2) (.slice (some ⟨w1.heap.size + 1, 0, none⟩) 1 1) (.slice (some ⟨w1.heap.size + 1 + 1, 0, none⟩) 1 1) (.slice (some ⟨w1.heap.size + 1 + 1 + 1, 0, none⟩) 2 2) :=
    ⟨byts_kept x1 (((((Mod.refl _ _).alloc (.cells #[.int .u8 99] 5 (1, 2))).alloc (.cells #[.int .u8 116] 5 (1, 2))).alloc (.cells #[.int .u8 1, .int .u8 2] 5)).alloc (.cells #[.bool true, .bool false, .int .i64 0, .int .u32 1, .slice (some ⟨w1.heap.size, 0, none⟩) 2 2, .slice (some ⟨w1.heap.size + 1, 0, none⟩) 1 1, .slice (some ⟨w1.heap.size + 1 + 1, 0, none⟩) 1 1, .slice (some ⟨w1.heap.size + 1 + 1 + 1, 0, none⟩) 2 2, .int .i64 3] 25)), byts_kept x2 ((((Mod.refl _ _).alloc (.cells #[.int .u8 116] 5 (1, 2))).alloc (.cells #[.int .u8 1, .int .u8 2] 5)).alloc (.cells #[.bool true, .bool false, .int .i64 0, .int .u32 1, .slice (some ⟨w1.heap.size, 0, none⟩) 2 2, .slice (some ⟨w1.heap.size + 1, 0, none⟩) 1 1, .slice (some ⟨w1.heap.size + 1 + 1, 0, none⟩) 1 1, .slice (some ⟨w1.heap.size + 1 + 1 + 1, 0, none⟩) 2 2, .int .i64 3] 25)), byts_kept x3 (((Mod.refl _ _).alloc (.cells #[.int .u8 1, .int .u8 2] 5)).alloc (.cells #[.bool true, .bool false, .int .i64 0, .int .u32 1, .slice (some ⟨w1.heap.size, 0, none⟩) 2 2, .slice (some ⟨w1.heap.size + 1, 0, none⟩) 1 1, .slice (some ⟨w1.heap.size + 1 + 1, 0, none⟩) 1 1, .slice (some ⟨w1.heap.size + 1 + 1 + 1, 0, none⟩) 2 2, .int .i64 3] 25)), byts_kept x4 ((Mod.refl _ _).alloc (.cells #[.bool true, .bool false, .int .i64 0, .int .u32 1, .slice (some ⟨w1.heap.size, 0, none⟩) 2 2, .slice (some ⟨w1.heap.size + 1, 0, none⟩) 1 1, .slice (some ⟨w1.heap.size + 1 + 1, 0, none⟩) 1 1, .slice (some ⟨w1.heap.size + 1 + 1 + 1, 0, none⟩) 2 2, .int .i64 3] 25)), by decide, by decide, by decide, by decide, by decide, by decide, by decide⟩
  obtain ⟨w5, hw5⟩ : ∃ w5, w5 = (((((w1.alloc (.cells #[.int .u8 97, .int .u8 98] 5 (2, 3))).alloc (.cells #[.int .u8 99] 5 (1, 2))).alloc (.cells #[.int .u8 116] 5 (1, 2))).alloc (.cells #[.int .u8 1, .int .u8 2] 5)).alloc (.cells #[.bool true, .bool false, .int .i64 0, .int .u32 1, .slice (some ⟨w1.heap.size, 0, none⟩) 2 2, .slice (some ⟨w1.heap.size + 1, 0, none⟩) 1 1, .slice (some ⟨w1.heap.size + 1 + 1, 0, none⟩) 1 1, .slice (some ⟨w1.heap.size + 1 + 1 + 1, 0, none⟩) 2 2, .int .i64 3] 25)) := ⟨_, rfl⟩
  rw [← hw5] at hv5 x5 n5 ⊢
  have HV5 := Lib.hid hv5
  have HB5 := Lib.hid x5
  have HVs5 := Lib.hid (HV1.out.kept n5.out)
  have HO1' := Lib.hid (byts_kept HO1.out.byts n5.out)
  have HBs5 := Lib.hid (n5.out.blk HB1.out (fun h => h))
  have hM5 := Lib.hid (hM1'.out.trans n5.out)
  clear x1 x2 x3 x4 x5 z1 z2 z3 z4 hv5 n0 n5 HV1 HO1 HB1 hM1' kc kc2 kc3 hw5
  refine (hput_s (hM5.out.tabs HT.out (fun h => h)) HV5.out put_lH).mono ?_
  rintro e w6 ⟨a6, cp6, rfl, ho6, hM6⟩
  have HO6 := Lib.hid ho6
  have hM6' := Lib.hid hM6
  clear ho6 hM6
  simp only [List.length_cons, List.length_nil, Nat.reduceAdd] at HO6 ⊢
  generalize w1.heap.size = s1 at *
  go_wp2_with (at_builtin; go_must (refine wpList_append_w rfl (.tmp 28) (.tmp 29) (by rfl) (.slice a6 15 cp6) [193, 0, 0, 0, 1, 2, 97, 98, 1, 99, 1, 116, 5, 1, 2] w5.heap.size 19 (by rfl) (HO6.out.keptF ((Mod.refl _ _).alloc _)) _ [1, 2, 3, 4] (by rfl) (byts_lit w6 [1, 2, 3, 4] _ 4 rfl rfl (by decide)) cL (by rfl) (by rfl) (by decide) (Nat.le_trans hM6'.out.size (by simp)) ?_); intro ap7 cp7 w7 ho7 hM7)
  have hM57 := Lib.hid (hM7 (hM6'.out.alloc _) (Nat.le_refl _))
  have HC7 := Lib.hid ho7.byts
  clear ho7 hM7
  refine (parse_is HC7.out (by decide) parse_cL).mono ?_
  rintro e w8 ⟨da, dc, sa, sc, ta, tc, ca, cc, rfl, hv8, hM8, _⟩
  have hM58 := Lib.hid (hM57.out.trans hM8)
  have HC8 := Lib.hid (byts_kept HC7.out hM8)
  have HV8 : Hid (HdV w8 lH (.slice da 2 dc) (.slice sa 1 sc) (.slice ta 1 tc) (.slice ca 2 cc)) := hv8
  rw [show hdV lH (.slice da lH.dst.length dc) (.slice sa lH.src.length sc) (.slice ta lH.tok.length tc) (.slice ca lH.cut.length cc) = .agg #[.bool true, .bool false, .int .i64 0, .int .u32 1, .slice da 2 dc, .slice sa 1 sc, .slice ta 1 tc, .slice ca 2 cc, .int .i64 3] from rfl]
  clear hv8 hM8
  go_wp2_with fail
  have hA9 : Mod (fun _ => False) w8 (w8.alloc (.cells #[.bool true, .bool false, .int .i64 0, .int .u32 1, .slice da 2 dc, .slice sa 1 sc, .slice ta 1 tc, .slice ca 2 cc, .int .i64 3] 25)) := (Mod.refl _ _).alloc _
  have hB9 := Blk.new w8 #[.bool true, .bool false, .int .i64 0, .int .u32 1, .slice da 2 dc, .slice sa 1 sc, .slice ta 1 tc, .slice ca 2 cc, .int .i64 3] 25
  obtain ⟨w9, hw9⟩ : ∃ w9, w9 = w8.alloc (.cells #[.bool true, .bool false, .int .i64 0, .int .u32 1, .slice da 2 dc, .slice sa 1 sc, .slice ta 1 tc, .slice ca 2 cc, .int .i64 3] 25) := ⟨_, rfl⟩
  rw [← hw9] at hA9 hB9 ⊢
  have hM59 := Lib.hid (hM58.out.trans hA9)
  have HC9 := Lib.hid (byts_kept HC8.out hA9)
  have HV9 := Lib.hid (HV8.out.kept hA9)
  have HB9 := Lib.hid hB9
  clear hA9 hB9 hw9 HC8 HV8 HC7
  generalize w8.heap.size = s8 at *
  have hpk := peek_any HC9.out (by decide)
  rw [peek_cL] at hpk
  refine hpk.mono ?_
  rintro e w10 ⟨v10, rfl, hd10, hM10⟩
  obtain ⟨a10, cp10, rfl, _⟩ := byts_val hd10
  have HD10 := Lib.hid hd10
  have hM510 := Lib.hid (hM59.out.trans hM10)
  have HV10 := Lib.hid (HV9.out.kept hM10)
  have HB10 := Lib.hid (hM10.blk HB9.out (fun h => h))
  clear hd10 hM10 hpk HV9 HB9 HC9
  simp only [List.length_cons, List.length_nil, Nat.reduceAdd] at HD10 ⊢
  go_wp2_with fail
  refine (parse_is (show Byts _ (.slice none 0 0) [] from Sl.nil _ _) (by decide) parse_nil).mono ?_
  rintro e w11 ⟨da1, dc1, sa1, sc1, ta1, tc1, ca1, cc1, rfl, hv11, hM11, _⟩
  rw [show hdV Hd.zero (.slice da1 Hd.zero.dst.length dc1) (.slice sa1 Hd.zero.src.length sc1) (.slice ta1 Hd.zero.tok.length tc1) (.slice ca1 Hd.zero.cut.length cc1) = .agg #[.bool false, .bool false, .int .i64 0, .int .u32 0, .slice da1 0 dc1, .slice sa1 0 sc1, .slice ta1 0 tc1, .slice ca1 0 cc1, .int .i64 0] from rfl]
  have hM511 := Lib.hid (hM510.out.trans hM11)
  have HD11 := Lib.hid (byts_kept HD10.out hM11)
  have HV11 := Lib.hid (HV10.out.kept hM11)
  have HB11 := Lib.hid (hM11.blk HB10.out (fun h => h))
  clear hM11 hv11 HV10 HB10 HD10
  go_wp2_with fail
  have hA12 : Mod (fun _ => False) w11 ((w11.alloc (.cells #[.bool false, .bool false, .int .i64 0, .int .u32 0, .slice da1 0 dc1, .slice sa1 0 sc1, .slice ta1 0 tc1, .slice ca1 0 cc1, .int .i64 0] 25)).alloc (.cells #[.int .u8 64, .int .u8 7, .int .u8 7, .int .u8 7, .int .u8 7, .int .u8 7, .int .u8 7, .int .u8 7, .int .u8 7, .int .u8 9] 5)) := ((Mod.refl _ _).alloc _).alloc _
  have hl12 := byts_lit (w11.alloc (.cells #[.bool false, .bool false, .int .i64 0, .int .u32 0, .slice da1 0 dc1, .slice sa1 0 sc1, .slice ta1 0 tc1, .slice ca1 0 cc1, .int .i64 0] 25)) [64, 7, 7, 7, 7, 7, 7, 7, 7, 9] #[.int .u8 64, .int .u8 7, .int .u8 7, .int .u8 7, .int .u8 7, .int .u8 7, .int .u8 7, .int .u8 7, .int .u8 7, .int .u8 9] 10 rfl rfl (by decide)
  rw [show ∀ o : Obj, (w11.alloc o).heap.size = w11.heap.size + 1 from fun o => by simp] at hl12
  obtain ⟨w12, hw12⟩ : ∃ w12, w12 = ((w11.alloc (.cells #[.bool false, .bool false, .int .i64 0, .int .u32 0, .slice da1 0 dc1, .slice sa1 0 sc1, .slice ta1 0 tc1, .slice ca1 0 cc1, .int .i64 0] 25)).alloc (.cells #[.int .u8 64, .int .u8 7, .int .u8 7, .int .u8 7, .int .u8 7, .int .u8 7, .int .u8 7, .int .u8 7, .int .u8 7, .int .u8 9] 5)) := ⟨_, rfl⟩
  rw [← hw12] at hA12 hl12 ⊢
  have hM512 := hM511.out.trans hA12
  refine (same_m (byts_kept HO1'.out hM512) hl12).mono ?_
  rintro e w13 ⟨rfl, hM13⟩
  rw [show decide (([64, 7, 7, 7, 7, 7, 7, 7, 7, 9] : List UInt8) = [64, 7, 7, 7, 7, 7, 7, 7, 7, 9]) = true from by decide]
  have hM1113 := hA12.trans hM13
  have hM513 := hM512.trans hM13
  have HD13 := Lib.hid (byts_kept HD11.out hM1113)
  have HV13 := Lib.hid (HV11.out.kept hM1113)
  have HL13 := Lib.hid (HV5.out.kept hM513)
  have HS13 := Lib.hid (HVs5.out.kept hM513)
  have hB13 := hM1113.blk HB11.out (fun h => h)
  have hBl13 := hM513.blk HB5.out (fun h => h)
  have hBs13 : Blk w13 (w.heap.size + 1 + 1) _ _ := hM513.blk HBs5.out (fun h => h)
  have HBS := Lib.hid hBs13
  have HW13 := Lib.hid (hM5.out.trans hM513)
  obtain ⟨c0, c1, c2, c3, c4, c5, c6, c7, c8, c9⟩ := hd_cells hB13
  obtain ⟨g0, g1, g2, g3, g4, g5, g6, g7, g8, g9⟩ := hd_cells hBl13
  clear hM1113 hM513 hB13 hBl13 hBs13 hM13 hM512 hA12 hl12 hw12 HD11 HV11 HB11 HV5 HB5 HVs5 HBs5 HO1' hM5 hM511 hM510 hM59 hM58 hM57 hM6' HO6
  go_wp2_with fail
  refine (hsame_any HV13.out HL13.out).mono ?_
  rintro e w14 ⟨rfl, hM14⟩
  rw [show sameB lH lH = true from by decide]
  have ca := conv_any (byts_kept HD13.out hM14)
  have hBs14 := hM14.blk HBS.out (fun h => h)
  obtain ⟨r0, r1, r2, r3, r4, r5, r6, r7, r8, r9⟩ := hd_cells hBs14
  have HS14 := Lib.hid (HS13.out.kept hM14)
  have HW14 := Lib.hid (HW13.out.trans hM14)
  clear hM14 hBs14 HBS HS13 HW13 HV13 HL13 HD13 c0 c1 c2 c3 c4 c5 c6 c7 c8 c9 g0 g1 g2 g3 g4 g5 g6 g7 g8 g9
  go_wp2_with fail
  refine (right_any HS14.out).mono ?_
  rintro e w15 ⟨rfl, hM15⟩
  rw [show rightB sH = true from by decide]
  have HW15 := Lib.hid (HW14.out.trans hM15)
  clear hM15 HS14 HW14 ca r0 r1 r2 r3 r4 r5 r6 r7 r8 r9
  go_wp2_with fail
  refine (right_any (zero_hdv w15)).mono ?_
  rintro e w16 ⟨rfl, hM16⟩
  rw [show rightB Hd.zero = false from by decide]
  go_wp2_with fail
  go_ret
  exact ⟨rfl, HW15.out.trans hM16⟩

theorem great_any {w : World} {h : Hd} {d s t c : Value} (hv : HdV w h d s t c) :
    Calls Tryd.prog 11 #[hdV h d s t c] w fun e w' => e = .returned (.bool (decide (600 < h.dst.length + h.src.length + h.tok.length + h.cut.length))) ∧ Mod (fun _ => False) w w' := by
  obtain ⟨da, dc, rfl, _⟩ := byts_val hv.d
  obtain ⟨sa, sc, rfl, _⟩ := byts_val hv.s
  obtain ⟨ta, tc, rfl, _⟩ := byts_val hv.t
  obtain ⟨ca, cc, rfl, _⟩ := byts_val hv.c
  have b1 := hv.dl
  have b2 := hv.sl
  have b3 := hv.tl
  have b4 := hv.cl
  unfold hdV
  generalize h.dst.length = nd at *
  generalize h.src.length = ns at *
  generalize h.tok.length = nt at *
  generalize h.cut.length = nc at *
  clear hv
  go_enter Tryd.func11, Tryd.ntmps11
  go_wp2
  go_ret
  refine ⟨ret_bool ?_, (Mod.refl _ w).alloc _⟩
  rw [Bool.eq_iff_iff]; simp; omega
end Go.Proofs.YtolbeamphmoimaaDoor
