/- The program's Put of parameters. (printed by genpput.py) -/
import Derived.Test.YtacgcpofpmkgnaaDoorPaE
import Derived.Deep.RegionHeld3
import Derived.Deep.DeepCutAuto
namespace Go.Proofs.YtacgcpofpmkgnaaDoor
open Go.RowKit

theorem PmB.kept {w w' : World} {b : Nat} {p : Pm} (h : PmB w b p) (hM : Mod (fun _ => False) w w') : PmB w' b p := ⟨hM.blk h.blk (fun h => h), h.len⟩
theorem PmB.byts {w : World} {b : Nat} {p : Pm} (h : PmB w b p) : Byts w (.slice (some ⟨b, 5, none⟩) 16 16) p.t := by
  refine ⟨by simp, some ⟨b, 5, none⟩, 16, by rw [h.len], by rw [h.len]; omega, by decide, fun e => by simp at e, fun j u hu => ⟨b, 5, rfl, h.tok j u hu⟩⟩
theorem size45 (a b : Value) : (Tryd.prog.info? 45).map (·.size) = some (#[a, b] : Array Value).size := by show _ = some 2; kernel_rfl
def putUp (p : Pm) : Nat → List UInt8
  | 0 => []
  | 1 => oneL 1 p.i ++ tokL p
  | 2 => oneL 1 p.i ++ tokL p ++ oneL 4 p.d
  | 3 => oneL 1 p.i ++ tokL p ++ oneL 4 p.d ++ oneL 5 p.s
  | _ => oneL 1 p.i ++ tokL p ++ oneL 4 p.d ++ oneL 5 p.s ++ oneL 8 p.n
theorem oneL_len (id n : Nat) : (oneL id n).length ≤ 10 := by
  unfold oneL; split
  · simp
  · have := putL_len n; simp; omega
theorem tokL_len (p : Pm) (h : p.t.length = 16) : (tokL p).length ≤ 18 := by unfold tokL; split <;> simp [h]
theorem putUp_len (p : Pm) (h : p.t.length = 16) (k : Nat) : (putUp p k).length ≤ 58 := by
  have h1 := oneL_len 1 p.i
  have h2 := oneL_len 4 p.d
  have h3 := oneL_len 5 p.s
  have h4 := oneL_len 8 p.n
  have h5 := tokL_len p h
  unfold putUp
  split <;> simp only [List.length_append, List.length_nil] <;> omega
theorem one_pos (id n : Nat) (h : n ≠ 0) : oneL id n = UInt8.ofNat id :: UInt8.ofNat (putL n).length :: putL n := by rw [oneL, if_neg h]
theorem one_zero (id n : Nat) (h : n = 0) : oneL id n = [] := by rw [oneL, if_pos h]
theorem tok_yes (p : Pm) (h : p.h = true) : tokL p = 2 :: 16 :: p.t := by rw [tokL, if_pos h]
theorem tok_no (p : Pm) (h : p.h = false) : tokL p = [] := by rw [tokL, if_neg (by simp [h])]
/-- The state between two rounds. -/
structure PutS (w0 w : World) (pb : Nat) (p : Pm) (v : Value) (l : List UInt8) : Prop where
  own : OwnB w w0.heap.size v l
  pm : PmB w pb p
  mod : Mod (fun _ => False) w0 w
theorem PutS.to {w0 w w' : World} {pb : Nat} {p : Pm} {v : Value} {l : List UInt8} (h : PutS w0 w pb p v l) (hM : Mod (fun _ => False) w w') : PutS w0 w' pb p v l := ⟨h.own.keptF hM, h.pm.kept hM, h.mod.trans hM⟩
theorem OwnB.apart {w : World} {B b : Nat} {v : Value} {l : List UInt8} {C : Array Value} {T : TypeId} (h : OwnB w B v l) (hb : Blk w b C T) (ht : T ≠ 5) : ¬ v.ownBlock = some b := by
  intro e
  rcases h.2 with ⟨rfl, _⟩ | ⟨g, cap, cur, rfl, _, hg, _⟩
  · simp [Value.ownBlock] at e
  · simp [Value.ownBlock] at e
    subst e
    exact Blk.ne hb (show Blk w g cur 5 from hg) ht rfl
theorem PutS.app {w0 w wm W : World} {pb n : Nat} {p : Pm} {v v' : Value} {l L : List UInt8} (h : PutS w0 w pb p v l) (hM : Mod (fun _ => False) w wm) (hA : App wm W w0.heap.size n v v' L) : PutS w0 W pb p v' L :=
  ⟨hA.own, ⟨(hA.mod (S := fun k => v.ownBlock = some k) (hM.mono (fun _ _ h => h.elim)) (fun g hg _ => hg)).blk h.pm.blk (fun e => h.own.apart h.pm.blk (by decide) e), h.pm.len⟩, hA.modF (h.mod.trans hM) (Nat.le_refl _)⟩
theorem Mod.any {S : Nat → Prop} {w w' : World} (h : Mod (fun _ => False) w w') : Mod S w w' := h.mono (fun _ _ h => h.elim)
theorem putc {w : World} (hT : Tabs w) (n : Nat) (xb : Nat) (z : Int) (l : List UInt8) (hl : l = putL n) : ∀ X, X.cell? ⟨xb, 0, none⟩ = some (.int .u64 z) → Mod (fun _ => False) w X → Calls Tryd.prog 21 #[.int .u64 (n : Int)] X fun e Y => ∃ a cp, e = .returned (.slice a l.length cp) ∧ Byts Y (.slice a l.length cp) l ∧ Y.cell? ⟨xb, 0, none⟩ = some (.int .u64 z) ∧ Mod (fun _ => False) w Y := by
  intro X hc hM
  subst hl
  refine (put_any n X (hM.tabs hT (fun h => h))).mono ?_
  rintro e Y ⟨v, rfl, ho, hM2⟩
  have hb := ho.byts
  obtain ⟨a, cp, rfl, _⟩ := byts_val hb
  exact ⟨a, cp, rfl, hb, hM2.cellAt hc (fun h => h), hM.trans hM2⟩
theorem laidc {w : World} (hT : Tabs w) (xb id : Nat) (z : Int) (hz : (id : Int) = z) (hi : id < 64) (l : List UInt8) (hl : (l.length : Int) < 64) (m : Nat) (L : List UInt8) (hL : L = UInt8.ofNat id :: UInt8.ofNat l.length :: l) (hm : m = L.length) : ∀ X a cp, Byts X (.slice a l.length cp) l → X.cell? ⟨xb, 0, none⟩ = some (.int .u64 z) → Mod (fun _ => False) w X → Calls Tryd.prog 20 #[.int .u64 z, .slice a l.length cp] X fun e Y => ∃ a cp, e = .returned (.slice a m cp) ∧ Byts Y (.slice a m cp) L ∧ Y.cell? ⟨xb, 0, none⟩ = some (.int .u64 z) ∧ Mod (fun _ => False) w Y := by
  intro X a cp hb hc hM
  subst hm hL hz
  refine (laid_any (hM.tabs hT (fun h => h)) id hi _ l hb hl).mono ?_
  rintro e Y ⟨v, rfl, ho, hM2⟩
  have hb := ho.byts
  obtain ⟨a, cp, rfl, _⟩ := byts_val hb
  exact ⟨a, cp, rfl, hb, hM2.cellAt hc (fun h => h), hM.trans hM2⟩

set_option maxHeartbeats 8000000 in
set_option maxRecDepth 10000 in
theorem pput_may {p : Pm} (h : p.t.length = 16) {w : World} (hT : Tabs w) (hm : mayB p = true) : Calls Tryd.prog 13 #[pmV p] w fun e w' => ∃ v, e = .returned v ∧ OwnB w' w.heap.size v (putUp p 4) ∧ Mod (fun _ => False) w w' := by
  have HT := Lib.hid hT
  have HB := PmB.new w p h
  have hmay := Lib.hid (may_any h (w.alloc (.cells (pmC p) 25)))
  rw [hm] at hmay
  have HS := Lib.hid (size25 p h)
  have HBB := Lib.hid HB
  unfold pmV at *
  clear hT h hm HB
  obtain ⟨C, hC⟩ : ∃ C, C = pmC p := ⟨_, rfl⟩
  rw [← hC] at hmay HS HBB ⊢
  have HC := Lib.hid hC
  clear hC
  go_enter Tryd.func13, Tryd.ntmps13
  go_wp2_with (first | ((with_reducible refine wpList_load_blk ?_ 25 (.tmp 1) ?_ w.heap.size ?_ C 25 _ (Blk.new _ _ _) Tryd.underlying25 ?_ HS.out ?_); (· exact rfl); (· exact rfl); (· exact rfl); (· exact rfl)) | (go_at_call 10; refine (hmay.out).mono ?_; rintro e w1 ⟨rfl, hM1⟩; have HM1 := Lib.hid hM1; clear hM1) | (go_at_call 19; refine (parts_any _).mono ?_; rintro e w2 ⟨rfl, hM2⟩))
  have HS0 : Hid (PutS w w2 w.heap.size p (.slice none 0 0) []) := ⟨OwnB.nil _ _, (HBB.out.kept HM1.out).kept hM2, (((Mod.refl _ w).alloc _).trans HM1.out).trans hM2⟩
  clear hM2 HM1 hmay HS HBB
  go_loopw [3, 11] (fun s3 s11 wr => ∃ k : Nat, k ≤ 4 ∧ s11 = .int .i64 k ∧ ∃ ap cp, s3 = .slice ap (putUp p k).length cp ∧ Hid (PutS w wr w.heap.size p (.slice ap (putUp p k).length cp) (putUp p k))) (fun _ s11 _ => 4 - (intOf s11).toNat)
  case atStart => exact ⟨0, by omega, rfl, none, 0, rfl, HS0⟩
  case round =>
    clear HS0
    obtain ⟨k, hk, rfl, ap, cp, rfl, HR⟩ := hrel
    have hk4 : k = 0 ∨ k = 1 ∨ k = 2 ∨ k = 3 ∨ k = 4 := by omega
    clear hk
    rcases hk4 with rfl | rfl | rfl | rfl | rfl
    · have hix : ∀ w, (Instr.index 46 partsV (.int .i64 0)).run Tryd.prog w = .ok (.agg #[.int .u64 1, .func (.func 33) #[] #[]]) w := fun _ => by kernel_rfl
      have hl58 := putUp_len p HR.out.pm.len 0
      have hl59 := putUp_len p HR.out.pm.len 1
      obtain ⟨acc, hacc⟩ : ∃ x, x = putUp p 0 := ⟨_, rfl⟩
      rw [← hacc] at HR hl58 ⊢
      have HACC := Lib.hid hacc
      have HL58 : Hid ((acc.length : Int) ≤ 58) := by show _ ≤ _; omega
      have HL59 : Hid (((putUp p 1).length : Int) ≤ 58) := by show _ ≤ _; omega
      clear hacc hl58 hl59
      obtain ⟨n0, hn0⟩ : ∃ n0, n0 = acc.length := ⟨_, rfl⟩
      rw [← hn0] at HR HL58 ⊢
      have HN0 := Lib.hid hn0
      clear hn0
      by_cases hnz : p.i = 0
      · have HNZ := Lib.hid hnz
        have hg : decide ((0 : Int) < (p.i : Int)) = false := decide_eq_false (by omega)
        have hg' : ¬ (0 : Int) < (p.i : Int) := by omega
        clear hnz
        cases hh : p.h
        · have HH := Lib.hid hh
          clear hh
          have HP := Lib.hid HR.out.pm
          go_wp2_with (first | ((with_reducible refine wpList_store_blk ?_ 45 (.tmp 5) (.tmp 14) ?_ wr.heap.size ?_ #[.int .u64 0, .nilFunc] #[.int .u64 1, .func (.func 33) #[] #[]] ?_ 45 (Blk.new _ _ _) (size45 _ _) ?_ ?_ ?_); (· exact rfl); (· exact rfl); (· exact rfl); (· exact rfl); (· exact rfl); (· intro v hv; simp at hv; rcases hv with rfl | rfl <;> rfl); intro wx hBx hMx; have HX := Lib.hid (HR.out.to (((Mod.refl (fun _ => False) wr).alloc _).trans' hMx (fun i hi e => by omega))); obtain ⟨c0, c1, c2, c3, c4⟩ := HX.out.pm.cells; rw [HH.out] at c4; have x0 := hBx.cellAt 0 rfl; have x1 := hBx.cellAt 1 rfl; clear hMx) | (go_at_call 33; refine (at1 _ _).mono ?_; rintro e w' ⟨rfl, rfl⟩))
          have hfin : acc = putUp p 1 := by rw [HACC.out]; simp [putUp, tok_no p HH.out, one_zero 1 p.i HNZ.out]
          have hfl : n0 = (putUp p 1).length := by rw [← hfin]; exact HN0.out
          rw [hfin] at HX
          go_roundw
          case rel => exact ⟨1, by omega, by go_num, ap, cp, by rw [← hfl], by rw [← hfl]; exact HX⟩
          case measure => simp [intOf]
        · have HH := Lib.hid hh
          clear hh
          have HP := Lib.hid HR.out.pm
          go_wp2_with (first | ((with_reducible refine wpList_store_blk ?_ 45 (.tmp 5) (.tmp 14) ?_ wr.heap.size ?_ #[.int .u64 0, .nilFunc] #[.int .u64 1, .func (.func 33) #[] #[]] ?_ 45 (Blk.new _ _ _) (size45 _ _) ?_ ?_ ?_); (· exact rfl); (· exact rfl); (· exact rfl); (· exact rfl); (· exact rfl); (· intro v hv; simp at hv; rcases hv with rfl | rfl <;> rfl); intro wx hBx hMx; have HX := Lib.hid (HR.out.to (((Mod.refl (fun _ => False) wr).alloc _).trans' hMx (fun i hi e => by omega))); obtain ⟨c0, c1, c2, c3, c4⟩ := HX.out.pm.cells; rw [HH.out] at c4; have x0 := hBx.cellAt 0 rfl; have x1 := hBx.cellAt 1 rfl; clear hMx) | (go_at_call 33; refine (at1 _ _).mono ?_; rintro e w' ⟨rfl, rfl⟩))
          have HB2 := Lib.hid HX.out.pm.byts
          have hlen16 := HX.out.pm.len
          have HLD := Lib.hid (laid_any (HX.out.mod.tabs HT.out (fun h => h)) 2 (by decide) (.slice (some ⟨w.heap.size, 5, none⟩) 16 16) p.t HX.out.pm.byts (by omega))
          rw [hlen16] at HLD
          obtain ⟨n2, hn2⟩ : ∃ n2, n2 = n0 + 18 := ⟨_, rfl⟩
          have HN2 : Hid (acc.length + (UInt8.ofNat 2 :: UInt8.ofNat 16 :: p.t).length = n2) := by show _ = _; rw [hn2, HN0.out]; simp [hlen16]
          have HL2 : Hid ((n2 : Int) ≤ 140737488355328) := by show _ ≤ _; have := HL58.out; omega
          clear hlen16 hn2
          refine (HLD.out).mono ?_
          rintro e W4 ⟨v4, rfl, ho4, hM4⟩
          have HO4 := Lib.hid ho4.byts
          obtain ⟨a4, cp4, rfl, _⟩ := byts_val ho4.byts
          have HM4 := Lib.hid hM4
          clear ho4 hM4 HLD
          go_wp2_with (at_builtin; go_must (refine wpList_append_b rfl (.tmp 35) (.tmp 38) (by rfl) (.slice ap n0 cp) acc w.heap.size n2 (by rfl) (HX.out.own.keptF HM4.out) _ (UInt8.ofNat 2 :: UInt8.ofNat 16 :: p.t) (by rfl) HO4.out _ rfl HN2.out HL2.out (HX.out.mod.trans HM4.out).size ?_); intro ap5 cp5 W5 hA5)
          have HW5 : Hid (PutS w W5 w.heap.size p (.slice ap5 n2 cp5) (acc ++ (UInt8.ofNat 2 :: UInt8.ofNat 16 :: p.t))) := HX.out.app HM4.out hA5
          have hfin : acc ++ (UInt8.ofNat 2 :: UInt8.ofNat 16 :: p.t) = putUp p 1 := by rw [HACC.out]; simp [putUp, tok_yes p HH.out, one_zero 1 p.i HNZ.out]
          have hfl : n2 = (putUp p 1).length := by rw [← hfin, List.length_append]; exact HN2.out.symm
          rw [hfin] at HW5
          go_roundw
          case rel => exact ⟨1, by omega, by go_num, ap5, cp5, by rw [← hfl], by rw [← hfl]; exact HW5⟩
          case measure => simp [intOf]
      · have HNZ := Lib.hid hnz
        have hg : decide ((0 : Int) < (p.i : Int)) = true := decide_eq_true (by omega)
        have hg' : (0 : Int) < (p.i : Int) := by omega
        clear hnz
        cases hh : p.h
        · have HH := Lib.hid hh
          clear hh
          have HP := Lib.hid HR.out.pm
          go_wp2_with (first | ((with_reducible refine wpList_store_blk ?_ 45 (.tmp 5) (.tmp 14) ?_ wr.heap.size ?_ #[.int .u64 0, .nilFunc] #[.int .u64 1, .func (.func 33) #[] #[]] ?_ 45 (Blk.new _ _ _) (size45 _ _) ?_ ?_ ?_); (· exact rfl); (· exact rfl); (· exact rfl); (· exact rfl); (· exact rfl); (· intro v hv; simp at hv; rcases hv with rfl | rfl <;> rfl); intro wx hBx hMx; have HX := Lib.hid (HR.out.to (((Mod.refl (fun _ => False) wr).alloc _).trans' hMx (fun i hi e => by omega))); obtain ⟨c0, c1, c2, c3, c4⟩ := HX.out.pm.cells; rw [HH.out] at c4; have x0 := hBx.cellAt 0 rfl; have x1 := hBx.cellAt 1 rfl; clear hMx) | (go_at_call 33; refine (at1 _ _).mono ?_; rintro e w' ⟨rfl, rfl⟩))
          have hMx : Mod (fun _ => False) wx wx := Mod.refl _ _
          have HTx := Lib.hid (HX.out.mod.tabs HT.out (fun h => h))
          obtain ⟨L1, hL1⟩ : ∃ x, x = putL p.i := ⟨_, rfl⟩
          have hl8 := putL_len p.i
          rw [← hL1] at hl8
          obtain ⟨L2, hL2⟩ : ∃ x, x = oneL 1 p.i := ⟨_, rfl⟩
          have hL2' := hL2.trans (one_pos 1 p.i HNZ.out)
          rw [← hL1] at hL2'
          have HPUT := Lib.hid (putc HTx.out p.i wr.heap.size 1 L1 hL1)
          obtain ⟨m, hm⟩ : ∃ m, m = L2.length := ⟨_, rfl⟩
          have HLAID := Lib.hid (laidc HTx.out wr.heap.size 1 1 rfl (by decide) L1 (by omega) m L2 hL2' hm)
          have HM := Lib.hid hm
          have HLL := Lib.hid hL2
          have hm10 : Hid (L2.length ≤ 10) := by show _ ≤ _; rw [hL2]; exact oneL_len _ _
          obtain ⟨n1, hn1⟩ : ∃ n1, n1 = n0 + m := ⟨_, rfl⟩
          have HN1 : Hid (acc.length + L2.length = n1) := by show _ = _; rw [hn1, hm, HN0.out]
          have HL1 : Hid ((n1 : Int) ≤ 140737488355328) := by show _ ≤ _; have := HL58.out; have := hm10.out; omega
          have HN1s : Hid (n1 = (acc ++ L2).length) := by show _ = _; rw [List.length_append]; exact HN1.out.symm
          clear hL1 hl8 hL2 hL2' hm hn1
          generalize L1.length = ml at *
          go_wp2_with fail
          have hSx : Mod (fun k => (Value.slice ap n0 cp).ownBlock = some k) wx wx := Mod.refl _ _
          go_region_held3 (fun X => X.cell? ⟨wr.heap.size, 0, none⟩ = some (.int .u64 1) ∧ Mod (fun k => (Value.slice ap n0 cp).ownBlock = some k) wx X) (first | assumption | (go_split_ands; (repeat' apply And.intro) <;> (first | assumption | (refine cell_ad _ _ _ _ ?_; assumption) | (refine cell_a _ _ _ _ ?_; assumption) | (refine mod_ad _ _ _ ?_; assumption) | (refine mod_a _ _ _ ?_; assumption) | (refine Mod.drew ?_; assumption))))
            (first
              | (go_at_call 21; (with_reducible refine (HPUT.out _ ?_ ?_).mono ?_); (· (first | assumption | exact x0)); (· (first | assumption | exact hMx | exact hMx.drew)); rintro e Y1 ⟨ap1, cp1, rfl, hb1, hc1, hm1⟩; have hs1 := hm1.any (S := fun k => (Value.slice ap n0 cp).ownBlock = some k))
              | (go_at_call 20; (with_reducible refine (HLAID.out _ _ _ ?_ ?_ ?_).mono ?_); (· (first | exact hb1 | exact byts_drew hb1)); (· (first | assumption | exact hc1)); (· (first | assumption | exact hm1 | exact hm1.drew)); rintro e Y2 ⟨ap2, cp2, rfl, hb2, hc2, hm2⟩; have hs2 := hm2.any (S := fun k => (Value.slice ap n0 cp).ownBlock = some k))
              | (refine step_append_b rfl (.tmp 22) (.tmp 27) (by rfl) (.slice ap n0 cp) acc w.heap.size n1 (by rfl) (HX.out.own.keptF hm2) _ L2 (by rfl) hb2 _ rfl HN1.out HL1.out (HX.out.mod.trans hm2).size ?_; intro ap3 cp3 W3 hA; have g3 := hA.mod hs2 (fun g hg _ => hg); have g3_c := g3.cellAt x0 (fun e => HX.out.own.apart hBx (by decide) e))
              | fail)
          have HW : Hid (PutS w W3 w.heap.size p (.slice ap3 n1 cp3) (acc ++ L2)) := HX.out.app hm2 hA
          clear c0 c1 c2 c3 c4 x1 g3_c hA g3 hMx hSx hBx
          obtain ⟨c0, c1, c2, c3, c4⟩ := HW.out.pm.cells
          rw [HH.out] at c4
          have hfin : (acc ++ L2) = putUp p 1 := by rw [HACC.out, HLL.out]; simp [putUp, tok_no p HH.out]
          have hfl : n1 = (putUp p 1).length := by rw [← hfin]; exact HN1s.out
          rw [hfin] at HW
          go_wp2_with fail
          go_roundw
          case rel => exact ⟨1, by omega, by go_num, ap3, cp3, by rw [← hfl], by rw [← hfl]; exact HW⟩
          case measure => simp [intOf]
        · have HH := Lib.hid hh
          clear hh
          have HP := Lib.hid HR.out.pm
          go_wp2_with (first | ((with_reducible refine wpList_store_blk ?_ 45 (.tmp 5) (.tmp 14) ?_ wr.heap.size ?_ #[.int .u64 0, .nilFunc] #[.int .u64 1, .func (.func 33) #[] #[]] ?_ 45 (Blk.new _ _ _) (size45 _ _) ?_ ?_ ?_); (· exact rfl); (· exact rfl); (· exact rfl); (· exact rfl); (· exact rfl); (· intro v hv; simp at hv; rcases hv with rfl | rfl <;> rfl); intro wx hBx hMx; have HX := Lib.hid (HR.out.to (((Mod.refl (fun _ => False) wr).alloc _).trans' hMx (fun i hi e => by omega))); obtain ⟨c0, c1, c2, c3, c4⟩ := HX.out.pm.cells; rw [HH.out] at c4; have x0 := hBx.cellAt 0 rfl; have x1 := hBx.cellAt 1 rfl; clear hMx) | (go_at_call 33; refine (at1 _ _).mono ?_; rintro e w' ⟨rfl, rfl⟩))
          have hMx : Mod (fun _ => False) wx wx := Mod.refl _ _
          have HTx := Lib.hid (HX.out.mod.tabs HT.out (fun h => h))
          obtain ⟨L1, hL1⟩ : ∃ x, x = putL p.i := ⟨_, rfl⟩
          have hl8 := putL_len p.i
          rw [← hL1] at hl8
          obtain ⟨L2, hL2⟩ : ∃ x, x = oneL 1 p.i := ⟨_, rfl⟩
          have hL2' := hL2.trans (one_pos 1 p.i HNZ.out)
          rw [← hL1] at hL2'
          have HPUT := Lib.hid (putc HTx.out p.i wr.heap.size 1 L1 hL1)
          obtain ⟨m, hm⟩ : ∃ m, m = L2.length := ⟨_, rfl⟩
          have HLAID := Lib.hid (laidc HTx.out wr.heap.size 1 1 rfl (by decide) L1 (by omega) m L2 hL2' hm)
          have HM := Lib.hid hm
          have HLL := Lib.hid hL2
          have hm10 : Hid (L2.length ≤ 10) := by show _ ≤ _; rw [hL2]; exact oneL_len _ _
          obtain ⟨n1, hn1⟩ : ∃ n1, n1 = n0 + m := ⟨_, rfl⟩
          have HN1 : Hid (acc.length + L2.length = n1) := by show _ = _; rw [hn1, hm, HN0.out]
          have HL1 : Hid ((n1 : Int) ≤ 140737488355328) := by show _ ≤ _; have := HL58.out; have := hm10.out; omega
          have HN1s : Hid (n1 = (acc ++ L2).length) := by show _ = _; rw [List.length_append]; exact HN1.out.symm
          clear hL1 hl8 hL2 hL2' hm hn1
          generalize L1.length = ml at *
          go_wp2_with fail
          have hSx : Mod (fun k => (Value.slice ap n0 cp).ownBlock = some k) wx wx := Mod.refl _ _
          go_region_held3 (fun X => X.cell? ⟨wr.heap.size, 0, none⟩ = some (.int .u64 1) ∧ Mod (fun k => (Value.slice ap n0 cp).ownBlock = some k) wx X) (first | assumption | (go_split_ands; (repeat' apply And.intro) <;> (first | assumption | (refine cell_ad _ _ _ _ ?_; assumption) | (refine cell_a _ _ _ _ ?_; assumption) | (refine mod_ad _ _ _ ?_; assumption) | (refine mod_a _ _ _ ?_; assumption) | (refine Mod.drew ?_; assumption))))
            (first
              | (go_at_call 21; (with_reducible refine (HPUT.out _ ?_ ?_).mono ?_); (· (first | assumption | exact x0)); (· (first | assumption | exact hMx | exact hMx.drew)); rintro e Y1 ⟨ap1, cp1, rfl, hb1, hc1, hm1⟩; have hs1 := hm1.any (S := fun k => (Value.slice ap n0 cp).ownBlock = some k))
              | (go_at_call 20; (with_reducible refine (HLAID.out _ _ _ ?_ ?_ ?_).mono ?_); (· (first | exact hb1 | exact byts_drew hb1)); (· (first | assumption | exact hc1)); (· (first | assumption | exact hm1 | exact hm1.drew)); rintro e Y2 ⟨ap2, cp2, rfl, hb2, hc2, hm2⟩; have hs2 := hm2.any (S := fun k => (Value.slice ap n0 cp).ownBlock = some k))
              | (refine step_append_b rfl (.tmp 22) (.tmp 27) (by rfl) (.slice ap n0 cp) acc w.heap.size n1 (by rfl) (HX.out.own.keptF hm2) _ L2 (by rfl) hb2 _ rfl HN1.out HL1.out (HX.out.mod.trans hm2).size ?_; intro ap3 cp3 W3 hA; have g3 := hA.mod hs2 (fun g hg _ => hg); have g3_c := g3.cellAt x0 (fun e => HX.out.own.apart hBx (by decide) e))
              | fail)
          have HW : Hid (PutS w W3 w.heap.size p (.slice ap3 n1 cp3) (acc ++ L2)) := HX.out.app hm2 hA
          clear c0 c1 c2 c3 c4 x1 g3_c hA g3 hMx hSx hBx
          obtain ⟨c0, c1, c2, c3, c4⟩ := HW.out.pm.cells
          rw [HH.out] at c4
          have HB2 := Lib.hid HW.out.pm.byts
          have hlen16 := HW.out.pm.len
          have HLD := Lib.hid (laid_any (HW.out.mod.tabs HT.out (fun h => h)) 2 (by decide) (.slice (some ⟨w.heap.size, 5, none⟩) 16 16) p.t HW.out.pm.byts (by omega))
          rw [hlen16] at HLD
          obtain ⟨n2, hn2⟩ : ∃ n2, n2 = n1 + 18 := ⟨_, rfl⟩
          have HN2 : Hid ((acc ++ L2).length + (UInt8.ofNat 2 :: UInt8.ofNat 16 :: p.t).length = n2) := by show _ = _; rw [hn2, HN1s.out]; simp [hlen16]
          have HL2 : Hid ((n2 : Int) ≤ 140737488355328) := by show _ ≤ _; have := HL58.out; have := hm10.out; have := HM.out; have := HN1.out; have := HN0.out; omega
          clear hlen16 hn2
          go_wp2_with fail
          refine (HLD.out).mono ?_
          rintro e W4 ⟨v4, rfl, ho4, hM4⟩
          have HO4 := Lib.hid ho4.byts
          obtain ⟨a4, cp4, rfl, _⟩ := byts_val ho4.byts
          have HM4 := Lib.hid hM4
          clear ho4 hM4 HLD
          go_wp2_with (at_builtin; go_must (refine wpList_append_b rfl (.tmp 35) (.tmp 38) (by rfl) (.slice ap3 n1 cp3) (acc ++ L2) w.heap.size n2 (by rfl) (HW.out.own.keptF HM4.out) _ (UInt8.ofNat 2 :: UInt8.ofNat 16 :: p.t) (by rfl) HO4.out _ rfl HN2.out HL2.out (HW.out.mod.trans HM4.out).size ?_); intro ap5 cp5 W5 hA5)
          have HW5 : Hid (PutS w W5 w.heap.size p (.slice ap5 n2 cp5) ((acc ++ L2) ++ (UInt8.ofNat 2 :: UInt8.ofNat 16 :: p.t))) := HW.out.app HM4.out hA5
          have hfin : (acc ++ L2) ++ (UInt8.ofNat 2 :: UInt8.ofNat 16 :: p.t) = putUp p 1 := by rw [HACC.out, HLL.out]; simp [putUp, tok_yes p HH.out]
          have hfl : n2 = (putUp p 1).length := by rw [← hfin, List.length_append]; exact HN2.out.symm
          rw [hfin] at HW5
          go_roundw
          case rel => exact ⟨1, by omega, by go_num, ap5, cp5, by rw [← hfl], by rw [← hfl]; exact HW5⟩
          case measure => simp [intOf]
    · have hix : ∀ w, (Instr.index 46 partsV (.int .i64 1)).run Tryd.prog w = .ok (.agg #[.int .u64 4, .func (.func 34) #[] #[]]) w := fun _ => by kernel_rfl
      have hl58 := putUp_len p HR.out.pm.len 1
      have hl59 := putUp_len p HR.out.pm.len 2
      obtain ⟨acc, hacc⟩ : ∃ x, x = putUp p 1 := ⟨_, rfl⟩
      rw [← hacc] at HR hl58 ⊢
      have HACC := Lib.hid hacc
      have HL58 : Hid ((acc.length : Int) ≤ 58) := by show _ ≤ _; omega
      have HL59 : Hid (((putUp p 2).length : Int) ≤ 58) := by show _ ≤ _; omega
      clear hacc hl58 hl59
      obtain ⟨n0, hn0⟩ : ∃ n0, n0 = acc.length := ⟨_, rfl⟩
      rw [← hn0] at HR HL58 ⊢
      have HN0 := Lib.hid hn0
      clear hn0
      by_cases hnz : p.d = 0
      · have HNZ := Lib.hid hnz
        have hg : decide ((0 : Int) < (p.d : Int)) = false := decide_eq_false (by omega)
        have hg' : ¬ (0 : Int) < (p.d : Int) := by omega
        clear hnz
        have HP := Lib.hid HR.out.pm
        go_wp2_with (first | ((with_reducible refine wpList_store_blk ?_ 45 (.tmp 5) (.tmp 14) ?_ wr.heap.size ?_ #[.int .u64 0, .nilFunc] #[.int .u64 4, .func (.func 34) #[] #[]] ?_ 45 (Blk.new _ _ _) (size45 _ _) ?_ ?_ ?_); (· exact rfl); (· exact rfl); (· exact rfl); (· exact rfl); (· exact rfl); (· intro v hv; simp at hv; rcases hv with rfl | rfl <;> rfl); intro wx hBx hMx; have HX := Lib.hid (HR.out.to (((Mod.refl (fun _ => False) wr).alloc _).trans' hMx (fun i hi e => by omega))); obtain ⟨c0, c1, c2, c3, c4⟩ := HX.out.pm.cells; have x0 := hBx.cellAt 0 rfl; have x1 := hBx.cellAt 1 rfl; clear hMx) | (go_at_call 34; refine (at2 _ _).mono ?_; rintro e w' ⟨rfl, rfl⟩))
        have hfin : acc = putUp p 2 := by rw [HACC.out]; simp [putUp, one_zero 4 p.d HNZ.out]
        have hfl : n0 = (putUp p 2).length := by rw [← hfin]; exact HN0.out
        rw [hfin] at HX
        go_roundw
        case rel => exact ⟨2, by omega, by go_num, ap, cp, by rw [← hfl], by rw [← hfl]; exact HX⟩
        case measure => simp [intOf]
      · have HNZ := Lib.hid hnz
        have hg : decide ((0 : Int) < (p.d : Int)) = true := decide_eq_true (by omega)
        have hg' : (0 : Int) < (p.d : Int) := by omega
        clear hnz
        have HP := Lib.hid HR.out.pm
        go_wp2_with (first | ((with_reducible refine wpList_store_blk ?_ 45 (.tmp 5) (.tmp 14) ?_ wr.heap.size ?_ #[.int .u64 0, .nilFunc] #[.int .u64 4, .func (.func 34) #[] #[]] ?_ 45 (Blk.new _ _ _) (size45 _ _) ?_ ?_ ?_); (· exact rfl); (· exact rfl); (· exact rfl); (· exact rfl); (· exact rfl); (· intro v hv; simp at hv; rcases hv with rfl | rfl <;> rfl); intro wx hBx hMx; have HX := Lib.hid (HR.out.to (((Mod.refl (fun _ => False) wr).alloc _).trans' hMx (fun i hi e => by omega))); obtain ⟨c0, c1, c2, c3, c4⟩ := HX.out.pm.cells; have x0 := hBx.cellAt 0 rfl; have x1 := hBx.cellAt 1 rfl; clear hMx) | (go_at_call 34; refine (at2 _ _).mono ?_; rintro e w' ⟨rfl, rfl⟩))
        have hMx : Mod (fun _ => False) wx wx := Mod.refl _ _
        have HTx := Lib.hid (HX.out.mod.tabs HT.out (fun h => h))
        obtain ⟨L1, hL1⟩ : ∃ x, x = putL p.d := ⟨_, rfl⟩
        have hl8 := putL_len p.d
        rw [← hL1] at hl8
        obtain ⟨L2, hL2⟩ : ∃ x, x = oneL 4 p.d := ⟨_, rfl⟩
        have hL2' := hL2.trans (one_pos 4 p.d HNZ.out)
        rw [← hL1] at hL2'
        have HPUT := Lib.hid (putc HTx.out p.d wr.heap.size 4 L1 hL1)
        obtain ⟨m, hm⟩ : ∃ m, m = L2.length := ⟨_, rfl⟩
        have HLAID := Lib.hid (laidc HTx.out wr.heap.size 4 4 rfl (by decide) L1 (by omega) m L2 hL2' hm)
        have HM := Lib.hid hm
        have HLL := Lib.hid hL2
        have hm10 : Hid (L2.length ≤ 10) := by show _ ≤ _; rw [hL2]; exact oneL_len _ _
        obtain ⟨n1, hn1⟩ : ∃ n1, n1 = n0 + m := ⟨_, rfl⟩
        have HN1 : Hid (acc.length + L2.length = n1) := by show _ = _; rw [hn1, hm, HN0.out]
        have HL1 : Hid ((n1 : Int) ≤ 140737488355328) := by show _ ≤ _; have := HL58.out; have := hm10.out; omega
        have HN1s : Hid (n1 = (acc ++ L2).length) := by show _ = _; rw [List.length_append]; exact HN1.out.symm
        clear hL1 hl8 hL2 hL2' hm hn1
        generalize L1.length = ml at *
        go_wp2_with fail
        have hSx : Mod (fun k => (Value.slice ap n0 cp).ownBlock = some k) wx wx := Mod.refl _ _
        go_region_held3 (fun X => X.cell? ⟨wr.heap.size, 0, none⟩ = some (.int .u64 4) ∧ Mod (fun k => (Value.slice ap n0 cp).ownBlock = some k) wx X) (first | assumption | (go_split_ands; (repeat' apply And.intro) <;> (first | assumption | (refine cell_ad _ _ _ _ ?_; assumption) | (refine cell_a _ _ _ _ ?_; assumption) | (refine mod_ad _ _ _ ?_; assumption) | (refine mod_a _ _ _ ?_; assumption) | (refine Mod.drew ?_; assumption))))
          (first
            | (go_at_call 21; (with_reducible refine (HPUT.out _ ?_ ?_).mono ?_); (· (first | assumption | exact x0)); (· (first | assumption | exact hMx | exact hMx.drew)); rintro e Y1 ⟨ap1, cp1, rfl, hb1, hc1, hm1⟩; have hs1 := hm1.any (S := fun k => (Value.slice ap n0 cp).ownBlock = some k))
            | (go_at_call 20; (with_reducible refine (HLAID.out _ _ _ ?_ ?_ ?_).mono ?_); (· (first | exact hb1 | exact byts_drew hb1)); (· (first | assumption | exact hc1)); (· (first | assumption | exact hm1 | exact hm1.drew)); rintro e Y2 ⟨ap2, cp2, rfl, hb2, hc2, hm2⟩; have hs2 := hm2.any (S := fun k => (Value.slice ap n0 cp).ownBlock = some k))
            | (refine step_append_b rfl (.tmp 22) (.tmp 27) (by rfl) (.slice ap n0 cp) acc w.heap.size n1 (by rfl) (HX.out.own.keptF hm2) _ L2 (by rfl) hb2 _ rfl HN1.out HL1.out (HX.out.mod.trans hm2).size ?_; intro ap3 cp3 W3 hA; have g3 := hA.mod hs2 (fun g hg _ => hg); have g3_c := g3.cellAt x0 (fun e => HX.out.own.apart hBx (by decide) e))
            | fail)
        have HW : Hid (PutS w W3 w.heap.size p (.slice ap3 n1 cp3) (acc ++ L2)) := HX.out.app hm2 hA
        clear c0 c1 c2 c3 c4 x1 g3_c hA g3 hMx hSx hBx
        obtain ⟨c0, c1, c2, c3, c4⟩ := HW.out.pm.cells
        have hfin : (acc ++ L2) = putUp p 2 := by rw [HACC.out, HLL.out]; simp [putUp]
        have hfl : n1 = (putUp p 2).length := by rw [← hfin]; exact HN1s.out
        rw [hfin] at HW
        go_wp2_with fail
        go_roundw
        case rel => exact ⟨2, by omega, by go_num, ap3, cp3, by rw [← hfl], by rw [← hfl]; exact HW⟩
        case measure => simp [intOf]
    · have hix : ∀ w, (Instr.index 46 partsV (.int .i64 2)).run Tryd.prog w = .ok (.agg #[.int .u64 5, .func (.func 35) #[] #[]]) w := fun _ => by kernel_rfl
      have hl58 := putUp_len p HR.out.pm.len 2
      have hl59 := putUp_len p HR.out.pm.len 3
      obtain ⟨acc, hacc⟩ : ∃ x, x = putUp p 2 := ⟨_, rfl⟩
      rw [← hacc] at HR hl58 ⊢
      have HACC := Lib.hid hacc
      have HL58 : Hid ((acc.length : Int) ≤ 58) := by show _ ≤ _; omega
      have HL59 : Hid (((putUp p 3).length : Int) ≤ 58) := by show _ ≤ _; omega
      clear hacc hl58 hl59
      obtain ⟨n0, hn0⟩ : ∃ n0, n0 = acc.length := ⟨_, rfl⟩
      rw [← hn0] at HR HL58 ⊢
      have HN0 := Lib.hid hn0
      clear hn0
      by_cases hnz : p.s = 0
      · have HNZ := Lib.hid hnz
        have hg : decide ((0 : Int) < (p.s : Int)) = false := decide_eq_false (by omega)
        have hg' : ¬ (0 : Int) < (p.s : Int) := by omega
        clear hnz
        have HP := Lib.hid HR.out.pm
        go_wp2_with (first | ((with_reducible refine wpList_store_blk ?_ 45 (.tmp 5) (.tmp 14) ?_ wr.heap.size ?_ #[.int .u64 0, .nilFunc] #[.int .u64 5, .func (.func 35) #[] #[]] ?_ 45 (Blk.new _ _ _) (size45 _ _) ?_ ?_ ?_); (· exact rfl); (· exact rfl); (· exact rfl); (· exact rfl); (· exact rfl); (· intro v hv; simp at hv; rcases hv with rfl | rfl <;> rfl); intro wx hBx hMx; have HX := Lib.hid (HR.out.to (((Mod.refl (fun _ => False) wr).alloc _).trans' hMx (fun i hi e => by omega))); obtain ⟨c0, c1, c2, c3, c4⟩ := HX.out.pm.cells; have x0 := hBx.cellAt 0 rfl; have x1 := hBx.cellAt 1 rfl; clear hMx) | (go_at_call 35; refine (at3 _ _).mono ?_; rintro e w' ⟨rfl, rfl⟩))
        have hfin : acc = putUp p 3 := by rw [HACC.out]; simp [putUp, one_zero 5 p.s HNZ.out]
        have hfl : n0 = (putUp p 3).length := by rw [← hfin]; exact HN0.out
        rw [hfin] at HX
        go_roundw
        case rel => exact ⟨3, by omega, by go_num, ap, cp, by rw [← hfl], by rw [← hfl]; exact HX⟩
        case measure => simp [intOf]
      · have HNZ := Lib.hid hnz
        have hg : decide ((0 : Int) < (p.s : Int)) = true := decide_eq_true (by omega)
        have hg' : (0 : Int) < (p.s : Int) := by omega
        clear hnz
        have HP := Lib.hid HR.out.pm
        go_wp2_with (first | ((with_reducible refine wpList_store_blk ?_ 45 (.tmp 5) (.tmp 14) ?_ wr.heap.size ?_ #[.int .u64 0, .nilFunc] #[.int .u64 5, .func (.func 35) #[] #[]] ?_ 45 (Blk.new _ _ _) (size45 _ _) ?_ ?_ ?_); (· exact rfl); (· exact rfl); (· exact rfl); (· exact rfl); (· exact rfl); (· intro v hv; simp at hv; rcases hv with rfl | rfl <;> rfl); intro wx hBx hMx; have HX := Lib.hid (HR.out.to (((Mod.refl (fun _ => False) wr).alloc _).trans' hMx (fun i hi e => by omega))); obtain ⟨c0, c1, c2, c3, c4⟩ := HX.out.pm.cells; have x0 := hBx.cellAt 0 rfl; have x1 := hBx.cellAt 1 rfl; clear hMx) | (go_at_call 35; refine (at3 _ _).mono ?_; rintro e w' ⟨rfl, rfl⟩))
        have hMx : Mod (fun _ => False) wx wx := Mod.refl _ _
        have HTx := Lib.hid (HX.out.mod.tabs HT.out (fun h => h))
        obtain ⟨L1, hL1⟩ : ∃ x, x = putL p.s := ⟨_, rfl⟩
        have hl8 := putL_len p.s
        rw [← hL1] at hl8
        obtain ⟨L2, hL2⟩ : ∃ x, x = oneL 5 p.s := ⟨_, rfl⟩
        have hL2' := hL2.trans (one_pos 5 p.s HNZ.out)
        rw [← hL1] at hL2'
        have HPUT := Lib.hid (putc HTx.out p.s wr.heap.size 5 L1 hL1)
        obtain ⟨m, hm⟩ : ∃ m, m = L2.length := ⟨_, rfl⟩
        have HLAID := Lib.hid (laidc HTx.out wr.heap.size 5 5 rfl (by decide) L1 (by omega) m L2 hL2' hm)
        have HM := Lib.hid hm
        have HLL := Lib.hid hL2
        have hm10 : Hid (L2.length ≤ 10) := by show _ ≤ _; rw [hL2]; exact oneL_len _ _
        obtain ⟨n1, hn1⟩ : ∃ n1, n1 = n0 + m := ⟨_, rfl⟩
        have HN1 : Hid (acc.length + L2.length = n1) := by show _ = _; rw [hn1, hm, HN0.out]
        have HL1 : Hid ((n1 : Int) ≤ 140737488355328) := by show _ ≤ _; have := HL58.out; have := hm10.out; omega
        have HN1s : Hid (n1 = (acc ++ L2).length) := by show _ = _; rw [List.length_append]; exact HN1.out.symm
        clear hL1 hl8 hL2 hL2' hm hn1
        generalize L1.length = ml at *
        go_wp2_with fail
        have hSx : Mod (fun k => (Value.slice ap n0 cp).ownBlock = some k) wx wx := Mod.refl _ _
        go_region_held3 (fun X => X.cell? ⟨wr.heap.size, 0, none⟩ = some (.int .u64 5) ∧ Mod (fun k => (Value.slice ap n0 cp).ownBlock = some k) wx X) (first | assumption | (go_split_ands; (repeat' apply And.intro) <;> (first | assumption | (refine cell_ad _ _ _ _ ?_; assumption) | (refine cell_a _ _ _ _ ?_; assumption) | (refine mod_ad _ _ _ ?_; assumption) | (refine mod_a _ _ _ ?_; assumption) | (refine Mod.drew ?_; assumption))))
          (first
            | (go_at_call 21; (with_reducible refine (HPUT.out _ ?_ ?_).mono ?_); (· (first | assumption | exact x0)); (· (first | assumption | exact hMx | exact hMx.drew)); rintro e Y1 ⟨ap1, cp1, rfl, hb1, hc1, hm1⟩; have hs1 := hm1.any (S := fun k => (Value.slice ap n0 cp).ownBlock = some k))
            | (go_at_call 20; (with_reducible refine (HLAID.out _ _ _ ?_ ?_ ?_).mono ?_); (· (first | exact hb1 | exact byts_drew hb1)); (· (first | assumption | exact hc1)); (· (first | assumption | exact hm1 | exact hm1.drew)); rintro e Y2 ⟨ap2, cp2, rfl, hb2, hc2, hm2⟩; have hs2 := hm2.any (S := fun k => (Value.slice ap n0 cp).ownBlock = some k))
            | (refine step_append_b rfl (.tmp 22) (.tmp 27) (by rfl) (.slice ap n0 cp) acc w.heap.size n1 (by rfl) (HX.out.own.keptF hm2) _ L2 (by rfl) hb2 _ rfl HN1.out HL1.out (HX.out.mod.trans hm2).size ?_; intro ap3 cp3 W3 hA; have g3 := hA.mod hs2 (fun g hg _ => hg); have g3_c := g3.cellAt x0 (fun e => HX.out.own.apart hBx (by decide) e))
            | fail)
        have HW : Hid (PutS w W3 w.heap.size p (.slice ap3 n1 cp3) (acc ++ L2)) := HX.out.app hm2 hA
        clear c0 c1 c2 c3 c4 x1 g3_c hA g3 hMx hSx hBx
        obtain ⟨c0, c1, c2, c3, c4⟩ := HW.out.pm.cells
        have hfin : (acc ++ L2) = putUp p 3 := by rw [HACC.out, HLL.out]; simp [putUp]
        have hfl : n1 = (putUp p 3).length := by rw [← hfin]; exact HN1s.out
        rw [hfin] at HW
        go_wp2_with fail
        go_roundw
        case rel => exact ⟨3, by omega, by go_num, ap3, cp3, by rw [← hfl], by rw [← hfl]; exact HW⟩
        case measure => simp [intOf]
    · have hix : ∀ w, (Instr.index 46 partsV (.int .i64 3)).run Tryd.prog w = .ok (.agg #[.int .u64 8, .func (.func 36) #[] #[]]) w := fun _ => by kernel_rfl
      have hl58 := putUp_len p HR.out.pm.len 3
      have hl59 := putUp_len p HR.out.pm.len 4
      obtain ⟨acc, hacc⟩ : ∃ x, x = putUp p 3 := ⟨_, rfl⟩
      rw [← hacc] at HR hl58 ⊢
      have HACC := Lib.hid hacc
      have HL58 : Hid ((acc.length : Int) ≤ 58) := by show _ ≤ _; omega
      have HL59 : Hid (((putUp p 4).length : Int) ≤ 58) := by show _ ≤ _; omega
      clear hacc hl58 hl59
      obtain ⟨n0, hn0⟩ : ∃ n0, n0 = acc.length := ⟨_, rfl⟩
      rw [← hn0] at HR HL58 ⊢
      have HN0 := Lib.hid hn0
      clear hn0
      by_cases hnz : p.n = 0
      · have HNZ := Lib.hid hnz
        have hg : decide ((0 : Int) < (p.n : Int)) = false := decide_eq_false (by omega)
        have hg' : ¬ (0 : Int) < (p.n : Int) := by omega
        clear hnz
        have HP := Lib.hid HR.out.pm
        go_wp2_with (first | ((with_reducible refine wpList_store_blk ?_ 45 (.tmp 5) (.tmp 14) ?_ wr.heap.size ?_ #[.int .u64 0, .nilFunc] #[.int .u64 8, .func (.func 36) #[] #[]] ?_ 45 (Blk.new _ _ _) (size45 _ _) ?_ ?_ ?_); (· exact rfl); (· exact rfl); (· exact rfl); (· exact rfl); (· exact rfl); (· intro v hv; simp at hv; rcases hv with rfl | rfl <;> rfl); intro wx hBx hMx; have HX := Lib.hid (HR.out.to (((Mod.refl (fun _ => False) wr).alloc _).trans' hMx (fun i hi e => by omega))); obtain ⟨c0, c1, c2, c3, c4⟩ := HX.out.pm.cells; have x0 := hBx.cellAt 0 rfl; have x1 := hBx.cellAt 1 rfl; clear hMx) | (go_at_call 36; refine (at4 _ _).mono ?_; rintro e w' ⟨rfl, rfl⟩))
        have hfin : acc = putUp p 4 := by rw [HACC.out]; simp [putUp, one_zero 8 p.n HNZ.out]
        have hfl : n0 = (putUp p 4).length := by rw [← hfin]; exact HN0.out
        rw [hfin] at HX
        go_roundw
        case rel => exact ⟨4, by omega, by go_num, ap, cp, by rw [← hfl], by rw [← hfl]; exact HX⟩
        case measure => simp [intOf]
      · have HNZ := Lib.hid hnz
        have hg : decide ((0 : Int) < (p.n : Int)) = true := decide_eq_true (by omega)
        have hg' : (0 : Int) < (p.n : Int) := by omega
        clear hnz
        have HP := Lib.hid HR.out.pm
        go_wp2_with (first | ((with_reducible refine wpList_store_blk ?_ 45 (.tmp 5) (.tmp 14) ?_ wr.heap.size ?_ #[.int .u64 0, .nilFunc] #[.int .u64 8, .func (.func 36) #[] #[]] ?_ 45 (Blk.new _ _ _) (size45 _ _) ?_ ?_ ?_); (· exact rfl); (· exact rfl); (· exact rfl); (· exact rfl); (· exact rfl); (· intro v hv; simp at hv; rcases hv with rfl | rfl <;> rfl); intro wx hBx hMx; have HX := Lib.hid (HR.out.to (((Mod.refl (fun _ => False) wr).alloc _).trans' hMx (fun i hi e => by omega))); obtain ⟨c0, c1, c2, c3, c4⟩ := HX.out.pm.cells; have x0 := hBx.cellAt 0 rfl; have x1 := hBx.cellAt 1 rfl; clear hMx) | (go_at_call 36; refine (at4 _ _).mono ?_; rintro e w' ⟨rfl, rfl⟩))
        have hMx : Mod (fun _ => False) wx wx := Mod.refl _ _
        have HTx := Lib.hid (HX.out.mod.tabs HT.out (fun h => h))
        obtain ⟨L1, hL1⟩ : ∃ x, x = putL p.n := ⟨_, rfl⟩
        have hl8 := putL_len p.n
        rw [← hL1] at hl8
        obtain ⟨L2, hL2⟩ : ∃ x, x = oneL 8 p.n := ⟨_, rfl⟩
        have hL2' := hL2.trans (one_pos 8 p.n HNZ.out)
        rw [← hL1] at hL2'
        have HPUT := Lib.hid (putc HTx.out p.n wr.heap.size 8 L1 hL1)
        obtain ⟨m, hm⟩ : ∃ m, m = L2.length := ⟨_, rfl⟩
        have HLAID := Lib.hid (laidc HTx.out wr.heap.size 8 8 rfl (by decide) L1 (by omega) m L2 hL2' hm)
        have HM := Lib.hid hm
        have HLL := Lib.hid hL2
        have hm10 : Hid (L2.length ≤ 10) := by show _ ≤ _; rw [hL2]; exact oneL_len _ _
        obtain ⟨n1, hn1⟩ : ∃ n1, n1 = n0 + m := ⟨_, rfl⟩
        have HN1 : Hid (acc.length + L2.length = n1) := by show _ = _; rw [hn1, hm, HN0.out]
        have HL1 : Hid ((n1 : Int) ≤ 140737488355328) := by show _ ≤ _; have := HL58.out; have := hm10.out; omega
        have HN1s : Hid (n1 = (acc ++ L2).length) := by show _ = _; rw [List.length_append]; exact HN1.out.symm
        clear hL1 hl8 hL2 hL2' hm hn1
        generalize L1.length = ml at *
        go_wp2_with fail
        have hSx : Mod (fun k => (Value.slice ap n0 cp).ownBlock = some k) wx wx := Mod.refl _ _
        go_region_held3 (fun X => X.cell? ⟨wr.heap.size, 0, none⟩ = some (.int .u64 8) ∧ Mod (fun k => (Value.slice ap n0 cp).ownBlock = some k) wx X) (first | assumption | (go_split_ands; (repeat' apply And.intro) <;> (first | assumption | (refine cell_ad _ _ _ _ ?_; assumption) | (refine cell_a _ _ _ _ ?_; assumption) | (refine mod_ad _ _ _ ?_; assumption) | (refine mod_a _ _ _ ?_; assumption) | (refine Mod.drew ?_; assumption))))
          (first
            | (go_at_call 21; (with_reducible refine (HPUT.out _ ?_ ?_).mono ?_); (· (first | assumption | exact x0)); (· (first | assumption | exact hMx | exact hMx.drew)); rintro e Y1 ⟨ap1, cp1, rfl, hb1, hc1, hm1⟩; have hs1 := hm1.any (S := fun k => (Value.slice ap n0 cp).ownBlock = some k))
            | (go_at_call 20; (with_reducible refine (HLAID.out _ _ _ ?_ ?_ ?_).mono ?_); (· (first | exact hb1 | exact byts_drew hb1)); (· (first | assumption | exact hc1)); (· (first | assumption | exact hm1 | exact hm1.drew)); rintro e Y2 ⟨ap2, cp2, rfl, hb2, hc2, hm2⟩; have hs2 := hm2.any (S := fun k => (Value.slice ap n0 cp).ownBlock = some k))
            | (refine step_append_b rfl (.tmp 22) (.tmp 27) (by rfl) (.slice ap n0 cp) acc w.heap.size n1 (by rfl) (HX.out.own.keptF hm2) _ L2 (by rfl) hb2 _ rfl HN1.out HL1.out (HX.out.mod.trans hm2).size ?_; intro ap3 cp3 W3 hA; have g3 := hA.mod hs2 (fun g hg _ => hg); have g3_c := g3.cellAt x0 (fun e => HX.out.own.apart hBx (by decide) e))
            | fail)
        have HW : Hid (PutS w W3 w.heap.size p (.slice ap3 n1 cp3) (acc ++ L2)) := HX.out.app hm2 hA
        clear c0 c1 c2 c3 c4 x1 g3_c hA g3 hMx hSx hBx
        obtain ⟨c0, c1, c2, c3, c4⟩ := HW.out.pm.cells
        have hfin : (acc ++ L2) = putUp p 4 := by rw [HACC.out, HLL.out]; simp [putUp]
        have hfl : n1 = (putUp p 4).length := by rw [← hfin]; exact HN1s.out
        rw [hfin] at HW
        go_wp2_with fail
        go_roundw
        case rel => exact ⟨4, by omega, by go_num, ap3, cp3, by rw [← hfl], by rw [← hfl]; exact HW⟩
        case measure => simp [intOf]
    · obtain ⟨F, hF⟩ : ∃ F, F = putUp p 4 := ⟨_, rfl⟩
      rw [← hF] at HR ⊢
      have HF := Lib.hid hF
      clear hF
      go_wp2
      go_ret
      refine ⟨_, rfl, ?_, HR.out.mod⟩
      rw [← HF.out]
      exact HR.out.own
end Go.Proofs.YtacgcpofpmkgnaaDoor
