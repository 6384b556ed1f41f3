/- The statements' own first call: the document's example; and the statement on what is put. -/
import Derived.Test.YtbkalloadlaloaaDoorVarF
namespace Go.Proofs.YtbkalloadlaloaaDoor
open Go.RowKit

/-- A block that was just laid reads as its cells. -/
theorem sl_lit (w : World) (cs : List Value) (n : Nat) (hn : cs.length = n) (hm : n ≤ maxLen) (T : TypeId) : Sl (w.alloc (.cells cs.toArray T)) 1 (.slice (some ⟨w.heap.size, 0, none⟩) n n) n cs :=
  ⟨by omega, _, n, rfl, Nat.le_refl _, hm, fun h => by simp at h, fun j u hu => ⟨_, 0, rfl, by rw [Nat.zero_add]; exact (Blk.new w cs.toArray T).cellAt j (by simpa using hu)⟩⟩
theorem put_15293 (w : World) (hT : Tabs w) : Calls Tryd.prog 12 #[.int .u64 15293] w fun e w' => ∃ v, e = .returned v ∧ OwnB w' w.heap.size v [0x7b, 0xbd] ∧ Mod (fun _ => False) w w' := put_any 15293 w hT
theorem size_64 (w : World) : Calls Tryd.prog 9 #[.int .u64 64] w fun e w' => w = w' ∧ e = .returned (.int .i64 2) := size_any 64 w
theorem wide_1_4 (w : World) (hT : Tabs w) : Calls Tryd.prog 14 #[.int .u64 1, .int .i64 4] w fun e w' => ∃ v, e = .returned v ∧ OwnB w' w.heap.size v [128, 0, 0, 1] ∧ Mod (fun _ => False) w w' := wide_any 1 4 w hT (by omega)
def x0 : RS := ⟨[0x7b, 0xbd, 7, 1, 2], 0⟩
def x1 : RS := ⟨[7, 1, 2], 0⟩
def x2 : RS := ⟨[1, 2], 0⟩
def x3 : RS := ⟨[], 0⟩
def x4 : RS := ⟨[], 2⟩
theorem int_x0 {w : World} {rb : Nat} (h : Rdr w rb x0) : Calls Tryd.prog 19 #[.pointer (some ⟨rb, 0, none⟩)] w fun x w' => x = .returned (.int .u64 15293) ∧ Rdr w' rb x1 ∧ Mod (fun k => k = rb) w w' := int_any h
theorem byte_x1 {w : World} {rb : Nat} (h : Rdr w rb x1) : Calls Tryd.prog 20 #[.pointer (some ⟨rb, 0, none⟩)] w fun x w' => x = .returned (.int .u8 7) ∧ Rdr w' rb x2 ∧ Mod (fun k => k = rb) w w' := byte_any h
theorem left_x2 {w : World} {rb : Nat} (h : Rdr w rb x2) : Calls Tryd.prog 18 #[.pointer (some ⟨rb, 0, none⟩)] w fun x w' => w = w' ∧ x = .returned (.int .i64 2) := left_any h
theorem bytes_x2 {w : World} {rb : Nat} (h : Rdr w rb x2) : Calls Tryd.prog 21 #[.pointer (some ⟨rb, 0, none⟩), .int .u64 2] w fun x w' => ∃ v, x = .returned v ∧ OwnB w' w.heap.size v [1, 2] ∧ Rdr w' rb x3 ∧ Mod (fun k => k = rb) w w' := bytes_any 2 h
theorem int_x3 {w : World} {rb : Nat} (h : Rdr w rb x3) : Calls Tryd.prog 19 #[.pointer (some ⟨rb, 0, none⟩)] w fun x w' => x = .returned (.int .u64 0) ∧ Rdr w' rb x4 ∧ Mod (fun k => k = rb) w w' := int_any h
theorem bad_x4 {w : World} {rb : Nat} (h : Rdr w rb x4) : Calls Tryd.prog 17 #[.pointer (some ⟨rb, 0, none⟩)] w fun x w' => w = w' ∧ x = .returned (.int .i64 2) := bad_any h

set_option maxHeartbeats 1000000 in
set_option maxRecDepth 10000 in
theorem alive_any (w : World) (hT : Tabs w) : Calls Tryd.prog 8 #[] w fun e w' => e = .returned (.bool true) ∧ Mod (fun _ => False) w w' := by
  obtain ⟨i0, hi, hz0, hz1, hz2⟩ := info_parts Tryd.info5
  have HT := Lib.hid hT
  clear hT
  go_enter Tryd.func8, Tryd.ntmps8
  go_wp2_with fail
  refine (put_15293 _ HT.out).mono ?_
  rintro e w1 ⟨v, rfl, ho, hM1⟩
  obtain ⟨a, cap, rfl, _, _, _⟩ := byts_val ho.byts
  have ho2 : w1.ownsRow w.heap.size 5 1 (.slice a 2 cap) 2 ([0x7b, 0xbd].map bv) := ho
  have hsz := hM1.size
  clear ho
  go_wp2_with (at_builtin; go_must (refine wpList_append_sl rfl _ _ 26 rfl w.heap.size 5 i0 (.int .u8 0) 1 1 Tryd.underlying26 hi hz0 hz1 hz2 rfl (by decide) _ 2 _ rfl (ho2.alloc _) _ 3 [bv 7, bv 1, bv 2] rfl (sl_lit w1 [bv 7, bv 1, bv 2] 3 rfl (by decide) _) (bv_one [7, 1, 2]) (by decide) (by decide) (by simp; omega) ?_); intro v' w2 hown hgrow)
  have hby : OwnB w2 w.heap.size v' [0x7b, 0xbd, 7, 1, 2] := hown
  have hM2 : Mod (fun _ => False) w w2 := (hM1.alloc _).grown hgrow (fun k hk hlt => by have := (ho2.lt k hk).1; omega)
  clear hown hgrow ho2 hsz
  go_wp2_with fail
  refine (read_any hby.byts (by decide)).mono ?_
  rintro e w3 ⟨rb, rfl, hrb, hr, hM3⟩
  have hM3' := hM2.trans hM3
  have hrbB := Nat.le_trans hM2.size hrb
  go_wp2_with fail
  refine (put_15293 _ (hM3'.tabs HT.out (fun h => h))).mono ?_
  rintro e w4 ⟨v4, rfl, ho4, hM4⟩
  have HO4 := Lib.hid ho4
  clear ho4
  go_wp2_with (go_at_call 11; refine (same_any (la := [0x7b, 0xbd]) (lb := [0x7b, 0xbd]) (HO4.out.byts.kept ((Mod.refl (fun _ => False) _).alloc _) (fun _ _ h => h)) (sl_lit w4 ([0x7b, 0xbd].map bv) 2 rfl (by decide) _)).mono ?_; rintro e w5 ⟨⟨q, rfl⟩, rfl⟩; rw [show decide (([0x7b, 0xbd] : List UInt8) = [0x7b, 0xbd]) = true by decide])
  refine (size_64 _).mono ?_
  rintro e w6 ⟨rfl, rfl⟩
  go_wp2_with fail
  refine (wide_1_4 _ ((((hM3'.trans hM4).alloc _).drewN q).tabs HT.out (fun h => h))).mono ?_
  rintro e w6 ⟨v6, rfl, ho6, hM6⟩
  have hr6 : Rdr w6 rb x0 := (show Rdr w3 rb x0 from hr).kept (((hM4.alloc _).drewN q).trans hM6) (fun _ _ h => h)
  have hM6' : Mod (fun k => w.heap.size ≤ k) w w6 := ((((hM3'.trans hM4).alloc _).drewN q).trans hM6).mono (fun _ _ h => h.elim)
  obtain ⟨a6, cap6, rfl, _⟩ := byts_val ho6.byts
  simp only [List.length_cons, List.length_nil]
  clear HO4 hr hM6 hM4 ho6 hM3' hM3 hM2 hM1 hby
  go_wp2_with fail
  refine (int_x0 hr6).mono ?_
  rintro e w7 ⟨rfl, hr7, hM7⟩
  go_wp2_with fail
  refine (byte_x1 hr7).mono ?_
  rintro e w8 ⟨rfl, hr8, hM8⟩
  go_wp2_with fail
  refine (left_x2 hr8).mono ?_
  rintro e w9 ⟨rfl, rfl⟩
  go_wp2_with fail
  refine (bytes_x2 hr8).mono ?_
  rintro e w9 ⟨v9, rfl, ho9, hr9, hM9⟩
  obtain ⟨a9, cap9, rfl, _⟩ := byts_val ho9.byts
  simp only [List.length_cons, List.length_nil]
  go_wp2_with fail
  refine (int_x3 hr9).mono ?_
  rintro e w10 ⟨rfl, hr10, hM10⟩
  go_wp2_with fail
  refine (bad_x4 hr10).mono ?_
  rintro e w11 ⟨rfl, rfl⟩
  go_wp2_with fail
  go_ret
  refine ⟨rfl, ?_⟩
  have hA : Mod (fun k => k = rb) w6 w10 := ((hM7.trans hM8).trans hM9).trans hM10
  have hB := hM6'.trans' hA (fun i hi e => by have e' : i = rb := e; omega)
  exact hB.mono (fun i hi h => by have h' : w.heap.size ≤ i := h; omega)

theorem Mod.none_below {w w' : World} (h : Mod (fun _ => False) w w') : Below w.heap.size w w' := h.below (Nat.le_refl _) (fun _ _ h => h.elim)

set_option maxHeartbeats 1000000 in
set_option maxRecDepth 10000 in
theorem puts_any (n : Nat) (size : Int) (w : World) (hT : Tabs w) (hs : -9223372036854775808 ≤ size ∧ size ≤ 9223372036854775807) :
    Calls Tryd.prog 3 #[.int .u64 (n : Int), .int .i64 size] w fun e w' => e = .returned (.bool true) ∧ Below w.heap.size w w' := by
  have HT := Lib.hid hT
  have HS := Lib.hid hs
  clear hT hs
  go_enter Tryd.func3, Tryd.ntmps3
  go_wp2_with fail
  refine (alive_any _ HT.out).mono ?_
  rintro e w1 ⟨rfl, hM1⟩
  go_wp2_with (first | (go_at_call 9; refine (size_any _ _).mono ?_; rintro e w' ⟨rfl, rfl⟩) | (go_at_call 10; refine (refsize_any _ _).mono ?_; rintro e w' ⟨rfl, rfl⟩))
  refine (put_any n _ (hM1.tabs HT.out (fun h => h))).mono ?_
  rintro e w2 ⟨v2, rfl, ho2, hM2⟩
  have HO2 := Lib.hid ho2
  clear ho2
  go_wp2_with fail
  refine (refput_any n _).mono ?_
  rintro e w3 ⟨v3, rfl, ho3, hM3⟩
  have HO3 := Lib.hid ho3
  clear ho3
  go_wp2_with fail
  refine (same_any (HO2.out.byts.kept hM3 (fun _ _ h => h)) HO3.out.byts).mono ?_
  rintro e w4 ⟨⟨q4, rfl⟩, rfl⟩
  have hM4 := ((hM1.trans hM2).trans hM3).drewN q4
  rw [show decide (putL n = putL n) = true from decide_eq_true rfl]
  go_wp2_with fail
  refine (wide_any n size _ (hM4.tabs HT.out (fun h => h)) HS.out).mono ?_
  rintro e w5 ⟨v5, rfl, ho5, hM5⟩
  have HO5 := Lib.hid ho5
  clear ho5
  go_wp2_with fail
  refine (refwide_any n size _).mono ?_
  rintro e w6 ⟨v6, rfl, ho6, hM6⟩
  have HO6 := Lib.hid ho6
  clear ho6
  go_wp2_with fail
  refine (same_any (HO5.out.byts.kept hM6 (fun _ _ h => h)) HO6.out.byts).mono ?_
  rintro e w7 ⟨⟨q7, rfl⟩, rfl⟩
  rw [show decide (wideL n size = wideL n size) = true from decide_eq_true rfl]
  go_wp2_with fail
  go_ret
  exact ⟨rfl, (((hM4.trans hM5).trans hM6).drewN q7).none_below⟩
end Go.Proofs.YtbkalloadlaloaaDoor
