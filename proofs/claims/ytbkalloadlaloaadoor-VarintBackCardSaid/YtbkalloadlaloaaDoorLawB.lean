/- The walks of the laws on what is put and read back, and on the order of the bytes. -/
import Derived.Test.YtbkalloadlaloaaDoorLawA
import Derived.Test.YtbkalloadlaloaaDoorPlainB
namespace Go.Proofs.YtbkalloadlaloaaDoor
open Go.RowKit

set_option maxHeartbeats 1000000 in
set_option maxRecDepth 10000 in
theorem back_none (n : Nat) (size : Int) (v2 : Value) (l : List UInt8) (w : World) (hT : Tabs w) (hs : -9223372036854775808 ≤ size ∧ size ≤ 9223372036854775807) (hb : Byts w v2 l) (hf : ¬ fits n size = true) :
    Calls Tryd.prog 5 #[.int .u64 (n : Int), .int .i64 size, v2] w fun e w' => e = .returned (.bool true) ∧ Below w.heap.size w w' := by
  have HT := Lib.hid hT
  have HS := Lib.hid hs
  have HN : Hid (wideL n size = []) := by show _ = _; simp [wideL, hf]
  obtain ⟨a2, c2, rfl, _⟩ := byts_val hb
  clear hT hs hf hb
  go_enter Tryd.func5, Tryd.ntmps5
  go_wp2_with fail
  refine (alive_any _ HT.out).mono ?_
  rintro e w1 ⟨rfl, hM1⟩
  go_wp2_with fail
  refine (wide_any n size _ (hM1.tabs HT.out (fun h => h)) HS.out).mono ?_
  rintro e w2 ⟨v, rfl, ho, hM2⟩
  rw [HN.out] at ho
  obtain ⟨a, cap, rfl, _⟩ := byts_val ho.byts
  simp only [List.length_nil]
  go_wp2_with fail
  go_ret
  exact ⟨rfl, (hM1.trans hM2).none_below⟩

set_option maxHeartbeats 1000000 in
set_option maxRecDepth 10000 in
theorem back_some (n s : Nat) (v2 : Value) (l : List UInt8) (w : World) (hT : Tabs w) (hb : Byts w v2 l) (hf : fits n (s : Int) = true) :
    Calls Tryd.prog 5 #[.int .u64 (n : Int), .int .i64 (s : Int), v2] w fun e w' => e = .returned (.bool true) ∧ Below w.heap.size w w' := by
  have HT := Lib.hid hT
  have HB := Lib.hid hb
  have HF := Lib.hid hf
  obtain ⟨hs1, hs8, hn, hs4⟩ := fits_bound n s hf
  have HN : Hid (wideL n (s : Int) = wd n s) := by show _ = _; simp [wideL, hf]
  obtain ⟨a2, c2, rfl, _⟩ := byts_val hb
  have hs1i : (1 : Int) ≤ s := by omega
  have hs8i : (s : Int) ≤ 8 := by omega
  have hs0 : ((s : Int) == 0) = false := by simp; omega
  have HS : Hid (-9223372036854775808 ≤ (s : Int) ∧ (s : Int) ≤ 9223372036854775807) := ⟨by omega, by omega⟩
  obtain ⟨i0, hi, hz0, hz1, hz2⟩ := info_parts Tryd.info5
  by_cases hl : (200 : Int) < l.length
  · clear hT hf hb hn hs4 hs1 hs8
    go_enter Tryd.func5, Tryd.ntmps5
    go_wp2_with fail
    refine (alive_any _ HT.out).mono ?_
    rintro e w1 ⟨rfl, hM1⟩
    go_wp2_with fail
    refine (wide_any n (s : Int) _ (hM1.tabs HT.out (fun h => h)) HS.out).mono ?_
    rintro e w2 ⟨v, rfl, ho, hM2⟩
    rw [HN.out] at ho
    obtain ⟨a, cap, rfl, _⟩ := byts_val ho.byts
    rw [wd_length]
    clear ho
    go_wp2_with fail
    go_ret
    exact ⟨rfl, (hM1.trans hM2).none_below⟩
  · have hz : (szN n : Int) ≤ s := szN_least n s hf
    have hl2 : (l.length : Int) ≤ 200 := by omega
    have HI : Hid (RS.int ⟨wd n s ++ l, 0⟩ = (n, ⟨l, 0⟩)) := int_wd n s l hf
    have HSZ := Lib.hid (size_any n)
    have HPL := Lib.hid (putL_length n)
    generalize szN n = z at *
    clear hT hf hb hn hs4 hs1 hs8 hl
    go_enter Tryd.func5, Tryd.ntmps5
    go_wp2_with fail
    refine (alive_any _ HT.out).mono ?_
    rintro e w1 ⟨rfl, hM1⟩
    go_wp2_with fail
    refine (wide_any n (s : Int) _ (hM1.tabs HT.out (fun h => h)) HS.out).mono ?_
    rintro e w2 ⟨v, rfl, ho, hM2⟩
    rw [HN.out] at ho
    obtain ⟨a, cap, rfl, _⟩ := byts_val ho.byts
    rw [wd_length]
    have ho2 : Hid (w2.ownsRow w1.heap.size 5 1 (.slice a s cap) s ((wd n s).map bv)) := by
      unfold OwnB at ho
      rw [wd_length] at ho
      exact ho
    have hsl : Hid (Sl w2 1 (.slice a2 l.length c2) l.length (l.map bv)) := HB.out.kept (hM1.trans hM2) (fun _ _ h => h)
    have hsz := hM2.size
    clear ho
    go_wp2_with (at_builtin; go_must (refine wpList_append_sl rfl _ _ 26 rfl w1.heap.size 5 i0 (.int .u8 0) 1 1 Tryd.underlying26 hi hz0 hz1 hz2 rfl (by decide) _ s _ rfl ho2.out _ l.length (l.map bv) rfl hsl.out (bv_one l) (by omega) (by decide) hsz ?_); intro v' w3 hown hgrow)
    have hby : OwnB w3 w1.heap.size v' (wd n s ++ l) := by
      unfold OwnB
      rw [List.map_append, List.length_append, wd_length]
      exact hown
    have hM3 : Mod (fun _ => False) w1 w3 := hM2.grown hgrow (fun k hk hlt => by have := (ho2.out.lt k hk).1; omega)
    clear hown hgrow ho2 hsl hsz hM2
    go_wp2_with fail
    refine (read_any hby.byts (by rw [List.length_append, wd_length]; omega)).mono ?_
    rintro e w4 ⟨rb, rfl, hrb, hr, hM4⟩
    go_wp2_with fail
    refine (int_any hr).mono ?_
    rw [HI.out]
    rintro e w5 ⟨rfl, hr5, hM5⟩
    go_wp2_with fail
    refine (left_any hr5).mono ?_
    rintro e w6 ⟨rfl, rfl⟩
    go_wp2_with fail
    refine (bad_any hr5).mono ?_
    rintro e w6 ⟨rfl, rfl⟩
    have hM5' : Mod (fun k => w.heap.size ≤ k) w w5 := ((hM1.trans hM3).trans hM4 |>.mono (fun _ _ h => h.elim)).trans' hM5 (fun i hi e => by have e' : i = rb := e; have h1 := hM1.size; have h3 := hM3.size; omega)
    have HT5 := Lib.hid (((hM1.trans hM3).trans hM4).tabs HT.out (fun h => h))
    have HT6 : Hid (Tabs w5) := hM5.tabs HT5.out (fun e => by have e' : 1 = rb := e; have := block_lt_of_cell HT.out.1; have h1 := hM1.size; have h3 := hM3.size; simp only at this; omega)
    go_wp2_with fail
    refine (put_any n _ HT6.out).mono ?_
    rintro e w7 ⟨v7, rfl, ho7, hM7⟩
    obtain ⟨a7, c7, rfl, _⟩ := byts_val ho7.byts
    rw [HPL.out]
    clear ho7
    go_wp2_with fail
    refine (put_any n _ (hM7.tabs HT6.out (fun h => h))).mono ?_
    rintro e w8 ⟨v8, rfl, ho8, hM8⟩
    obtain ⟨a8, c8, rfl, _⟩ := byts_val ho8.byts
    rw [HPL.out]
    clear ho8
    go_wp2_with fail
    refine (HSZ.out _).mono ?_
    rintro e w9 ⟨rfl, rfl⟩
    go_wp2_with fail
    go_ret
    refine ⟨rfl, ?_⟩
    exact (hM5'.trans' (hM7.trans hM8) (fun _ _ h => h.elim)).below (Nat.le_refl _) (fun k hk h => h)
theorem back_any (n : Nat) (size : Int) (v2 : Value) (l : List UInt8) (w : World) (hT : Tabs w) (hs : -9223372036854775808 ≤ size ∧ size ≤ 9223372036854775807) (hb : Byts w v2 l) :
    Calls Tryd.prog 5 #[.int .u64 (n : Int), .int .i64 size, v2] w fun e w' => e = .returned (.bool true) ∧ Below w.heap.size w w' := by
  by_cases hf : fits n size = true
  · have hp : 0 ≤ size := by rw [fits_iff] at hf; omega
    obtain ⟨s, rfl⟩ := Int.eq_ofNat_of_zero_le hp
    exact back_some n s v2 l w hT hb hf
  · exact back_none n size v2 l w hT hs hb hf
end Go.Proofs.YtbkalloadlaloaaDoor
