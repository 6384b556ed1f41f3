/- A parameter's bytes: params.laid. -/
import Derived.Test.YtacgcpofpmkgnaaDoorPaA
import Derived.Test.YtacgcpofpmkgnaaDoorPaC
import Derived.Test.YtacgcpofpmkgnaaDoorPlainB
namespace Go.Proofs.YtacgcpofpmkgnaaDoor
open Go.RowKit

def laidL (id : Nat) (v : List UInt8) : List UInt8 := putL id ++ putL v.length ++ v
theorem putL_small (n : Nat) (h : n < 64) : putL n = [UInt8.ofNat n] := by
  have h1 : szN n = 1 := by rcases szN_cases n with h' | h' | h' | h' | h' <;> omega
  rw [putL_eq n (by omega), h1]
  simp [wd, be, tg]
theorem laidL_small (id : Nat) (v : List UInt8) (hi : id < 64) (hv : v.length < 64) : laidL id v = UInt8.ofNat id :: UInt8.ofNat v.length :: v := by
  simp [laidL, putL_small _ hi, putL_small _ hv]
theorem parts3 {w : World} {b : Nat} {v1 v2 v3 : Value} {l1 l2 l3 : List UInt8} {T : TypeId} (hb : Blk w b #[v1, v2, v3] T) (h1 : Byts w v1 l1) (h2 : Byts w v2 l2) (h3 : Byts w v3 l3) : Parts w b 0 [l1, l2, l3] := by
  intro i l hl
  obtain ⟨a1, c1, rfl, _⟩ := byts_val h1
  obtain ⟨a2, c2, rfl, _⟩ := byts_val h2
  obtain ⟨a3, c3, rfl, _⟩ := byts_val h3
  rw [Nat.zero_add]
  match i, hl with
  | 0, hl => simp at hl; subst hl; exact ⟨_, _, hb.cellAt 0 rfl, h1⟩
  | 1, hl => simp at hl; subst hl; exact ⟨_, _, hb.cellAt 1 rfl, h2⟩
  | 2, hl => simp at hl; subst hl; exact ⟨_, _, hb.cellAt 2 rfl, h3⟩
  | (_ + 3), hl => simp at hl
theorem putL_len (n : Nat) : (putL n).length ≤ 8 := by rw [putL_length]; exact szN_le n
set_option maxRecDepth 10000 in
theorem laid_any {w : World} (hT : Tabs w) (id : Nat) (hi : id < 64) (v : Value) (l : List UInt8) (h : Byts w v l) (hl : (l.length : Int) < 64) :
    Calls Tryd.prog 20 #[.int .u64 (id : Int), v] w fun e w' => ∃ v', e = .returned v' ∧ OwnB w' w.heap.size v' (UInt8.ofNat id :: UInt8.ofNat l.length :: l) ∧ Mod (fun _ => False) w w' := by
  have HT := Lib.hid hT
  have H := Lib.hid h
  have HL := Lib.hid (laidL_small id l hi (by omega))
  have hp1 := putL_small id hi
  have hp2 := putL_small l.length (by omega)
  have HP1 := Lib.hid (put_any id w hT)
  rw [hp1] at HP1
  have HI := Lib.hid hl
  obtain ⟨a, c, rfl, _⟩ := byts_val h
  have hw : IntKind.u64.wrap (l.length : Int) = l.length := IntWalk.u64_in _ (by omega)
  have HQ2 := Lib.hid hp2
  clear h hT hp1 hp2 hl hi
  go_enter Tryd.func20, Tryd.ntmps20
  go_wp2_with fail
  refine (HP1.out).mono ?_
  rintro e w1 ⟨v1, rfl, ho1, hM1⟩
  obtain ⟨a1, c1, rfl, _⟩ := byts_val ho1.byts
  go_wp2_with fail
  refine (put_any l.length w1 (hM1.tabs HT.out (fun h => h))).mono ?_
  rintro e w2 ⟨v2, rfl, ho2, hM2⟩
  rw [HQ2.out] at ho2
  obtain ⟨a2, c2, rfl, _⟩ := byts_val ho2.byts
  have hM12 := hM1.trans hM2
  have b1 := Lib.hid (byts_kept ho1.byts (hM2.alloc (.cells #[.slice a1 [UInt8.ofNat id].length c1, .slice a2 [UInt8.ofNat l.length].length c2, .slice a l.length c] 29)))
  have b2 := Lib.hid (byts_kept ho2.byts ((Mod.refl _ _).alloc (.cells #[.slice a1 [UInt8.ofNat id].length c1, .slice a2 [UInt8.ofNat l.length].length c2, .slice a l.length c] 29)))
  have b3 := Lib.hid (byts_kept H.out (hM12.alloc (.cells #[.slice a1 [UInt8.ofNat id].length c1, .slice a2 [UInt8.ofNat l.length].length c2, .slice a l.length c] 29)))
  have HM := Lib.hid (hM12.alloc (.cells #[.slice a1 [UInt8.ofNat id].length c1, .slice a2 [UInt8.ofNat l.length].length c2, .slice a l.length c] 29))
  have HB := Lib.hid (Blk.new w2 #[.slice a1 [UInt8.ofNat id].length c1, .slice a2 [UInt8.ofNat l.length].length c2, .slice a l.length c] 29)
  clear ho1 hM1 ho2 hM2 hM12 HP1 HQ2
  simp only [List.length_cons, List.length_nil, Nat.reduceAdd] at HM HB b1 b2 b3 ⊢
  go_wp2_with fail
  refine (concat_any (n := 3) (c := 3) (ls := [[UInt8.ofNat id], [UInt8.ofNat l.length], l]) rfl (Nat.le_refl _) (parts3 HB.out b1.out b2.out b3.out) (by have := HI.out; simp; omega) (by simp) (by decide)).mono ?_
  rintro e w3 ⟨v3, rfl, ho3, hM3⟩
  go_wp2_with fail
  go_ret
  refine ⟨_, rfl, ?_, HM.out.trans hM3⟩
  have e : [[UInt8.ofNat id], [UInt8.ofNat l.length], l].flatten = UInt8.ofNat id :: UInt8.ofNat l.length :: l := by simp
  rw [e] at ho3
  exact ho3.mono (by have := HM.out.size; simpa using this)
end Go.Proofs.YtacgcpofpmkgnaaDoor
