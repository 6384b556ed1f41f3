/- The document's Put of a header. -/
import Derived.Test.YtolbeamphmoimaaDoorHdH
import Derived.Test.YtolbeamphmoimaaDoorAppB
import Derived.Deep.RegionHeld3
import Derived.IntWalk
import Derived.Deep.DeepCutAuto
namespace Go.Proofs.YtolbeamphmoimaaDoor
open Go.RowKit

set_option maxRecDepth 10000 in
theorem refhput_wrong {w : World} {h : Hd} {d s t c : Value} (hv : HdV w h d s t c) (hr : rightB h = false) :
    Calls Tryd.prog 16 #[hdV h d s t c] w fun e w' => e = .returned (.slice none 0 0) ∧ Mod (fun _ => False) w w' := by
  have HR := Lib.hid (refright_any (hv.kept ((Mod.refl (fun _ => False) w).alloc (.cells (hdV h d s t c).cells 25))))
  rw [hr] at HR
  clear hr
  obtain ⟨da, dc, rfl, _⟩ := byts_val hv.d
  obtain ⟨sa, sc, rfl, _⟩ := byts_val hv.s
  obtain ⟨ta, tc, rfl, _⟩ := byts_val hv.t
  obtain ⟨ca, cc, rfl, _⟩ := byts_val hv.c
  unfold hdV at HR ⊢
  clear hv
  go_enter Tryd.func16, Tryd.ntmps16
  go_wp2_with fail
  refine HR.out.mono ?_
  rintro e w1 ⟨rfl, hM⟩
  go_wp2
  go_ret
  exact ⟨rfl, ((Mod.refl (fun _ => False) w).alloc _).trans hM⟩

theorem rfirst_short (nc p : Nat) (h1 : 1 ≤ nc) (h4 : nc ≤ 4) (hp : p = 0 ∨ p = 4) : Value.int .u8 (IntKind.u8.wrap (64 + (nc : Int) - 1 + (p : Int))) = bv (UInt8.ofNat (64 + (nc - 1) + p)) := by
  rcases hp with rfl | rfl <;> rcases (show nc = 1 ∨ nc = 2 ∨ nc = 3 ∨ nc = 4 by omega) with rfl | rfl | rfl | rfl <;> (unfold bv; congr 1)

set_option maxHeartbeats 4000000 in
set_option maxRecDepth 10000 in
theorem refhput_short {w : World} {h : Hd} {d s t c : Value} (hv : HdV w h d s t c) (hr : rightB h = true) (hl : h.long = false) :
    Calls Tryd.prog 16 #[hdV h d s t c] w fun e w' => ∃ v, e = .returned v ∧ OwnB w' w.heap.size v (hputL h) ∧ Mod (fun _ => False) w w' := by
  have HR := Lib.hid (refright_any (hv.kept ((Mod.refl (fun _ => False) w).alloc (.cells (hdV h d s t c).cells 25))))
  obtain ⟨l1, l2, l3, l4, l5, l6⟩ := right_len hr
  obtain ⟨k1, k2, k3, k4, k5⟩ := right_short hr hl
  have hL : hputL h = UInt8.ofNat (64 + (h.cut.length - 1) + if h.phase then 4 else 0) :: (h.dst ++ h.cut) := by simp [hputL, hr, hl]
  rw [hL]
  obtain ⟨X, hX⟩ : ∃ X, X = UInt8.ofNat (64 + (h.cut.length - 1) + if h.phase then 4 else 0) := ⟨_, rfl⟩
  rw [← hX]
  have HX := Lib.hid hX
  clear hX
  rw [hr] at HR
  obtain ⟨da, dc, rfl, _⟩ := byts_val hv.d
  obtain ⟨sa, sc, rfl, _⟩ := byts_val hv.s
  obtain ⟨ta, tc, rfl, _⟩ := byts_val hv.t
  obtain ⟨ca, cc, rfl, _⟩ := byts_val hv.c
  have hcut : Hid (Byts w (.slice ca h.cut.length cc) h.cut) := hv.c
  have hdst : Hid (Byts w (.slice da h.dst.length dc) h.dst) := hv.d
  unfold hdV at HR ⊢
  clear hv hL k1 k2 k3 k4 l5 l6
  obtain ⟨nc, hnc⟩ : ∃ nc, nc = h.cut.length := ⟨_, rfl⟩
  obtain ⟨nd, hnd⟩ : ∃ nd, nd = h.dst.length := ⟨_, rfl⟩
  rw [← hnc] at HR HX hcut l1 l2 ⊢
  rw [← hnd] at HR hdst l3 k5 ⊢
  rw [hl] at HR ⊢
  have HND := Lib.hid hnd
  have HNC := Lib.hid hnc
  have H8 := Lib.hid k5
  clear hr hnc hnd k5
  generalize h.src.length = ns at *
  generalize h.tok.length = nt at *
  generalize h.phase = ph at *
  generalize h.kind = ki at *
  generalize h.ver = ve at *
  generalize h.rest = re at *
  generalize h.dst = D at *
  generalize h.cut = C at *
  clear hl
  have l1i : (1 : Int) ≤ nc := by omega
  have l2i : (nc : Int) ≤ 4 := by omega
  all_goals
    go_enter Tryd.func16, Tryd.ntmps16
    go_wp2_with fail
    refine HR.out.mono ?_
    rintro e w1 ⟨rfl, hM⟩
    have hM' := Lib.hid (((Mod.refl (fun _ => False) w).alloc _).trans hM)
    have HB := hM.blk (Blk.new _ _ _) (fun h => h)
    have c0 : w1.cell? ⟨w.heap.size, 0, none⟩ = some (.bool false) := HB.cellAt 0 rfl
    have c1 : w1.cell? ⟨w.heap.size, 1, none⟩ = some (.bool ph) := HB.cellAt 1 rfl
    have c4 : w1.cell? ⟨w.heap.size, 4, none⟩ = some (.slice da nd dc) := HB.cellAt 4 rfl
    have c7 : w1.cell? ⟨w.heap.size, 7, none⟩ = some (.slice ca nc cc) := HB.cellAt 7 rfl
    have hlt : w.heap.size < w1.heap.size := HB.lt
    have hM0 : Mod (fun _ => False) w1 w1 := Mod.refl _ _
    clear HB HR hM
    have HN1 : Hid (([X] : List UInt8).length + D.length = 1 + nd) := by show _ = _; rw [HND.out]; rfl
    have HN2 : Hid ((([X] : List UInt8) ++ D).length + C.length = 1 + nd + nc) := by show _ = _; rw [List.length_append, HN1.out, HNC.out]
    have HL1 : Hid (((1 + nd : Nat) : Int) ≤ 140737488355328) := by show _ ≤ _; omega
    have HL2 : Hid (((1 + nd + nc : Nat) : Int) ≤ 140737488355328) := by show _ ≤ _; omega
    have HXV : Hid (#[Value.int .u8 (IntKind.u8.wrap (64 + (nc : Int) - 1 + ((if ph = true then 4 else 0 : Nat) : Int)))] = (([X] : List UInt8).map bv).toArray) := by
      show _ = _
      rw [rfirst_short nc _ l1 l2 (by cases ph <;> simp), ← HX.out]
      rfl
    cases ph
    case' false => simp only [Bool.false_eq_true, if_false, Int.natCast_zero, Int.add_zero] at HXV
    case' true => simp only [if_true, Int.cast_ofNat_Int] at HXV
    all_goals
      go_wp2_with fail
      go_region_held3 (fun X => X.cell? ⟨w.heap.size, 4, none⟩ = some (.slice da nd dc) ∧ X.cell? ⟨w.heap.size, 7, none⟩ = some (.slice ca nc cc) ∧ Mod (fun _ => False) w1 X) (first | assumption | (go_split_ands; (repeat' apply And.intro) <;> (first | assumption | (refine cell_ad _ _ _ _ ?_; assumption) | (refine cell_a _ _ _ _ ?_; assumption) | (refine mod_ad _ _ _ ?_; assumption) | (refine mod_a _ _ _ ?_; assumption) | (refine Mod.drew ?_; assumption))))
        (first
          | (refine step_append_b rfl (.tmp 23) (.tmp 25) (by rfl) (.slice (some ⟨w1.heap.size, 0, none⟩) 1 1) [X] w1.heap.size (1 + nd) (by rfl) (own_lit w1 [X] _ 1 w1.heap.size HXV.out rfl (by decide) (Nat.le_refl _)).drew _ D (by rfl) (byts_kept hdst.out (hM'.out.trans (hM0.alloc _).drew)) _ rfl HN1.out HL1.out (hM0.alloc _).drew.size ?_; intro ap1 cp1 W1 hA1; have g0 := hA1.modF (hM0.alloc _).drew (Nat.le_refl _); have g4 := g0.cellAt c4 (fun h => h); have g7 := g0.cellAt c7 (fun h => h))
          | (refine step_append_b rfl (.tmp 26) (.tmp 28) (by rfl) (.slice ap1 (1 + nd) cp1) ([X] ++ D) w1.heap.size (1 + nd + nc) (by rfl) hA1.own _ C (by rfl) (byts_kept hcut.out (hM'.out.trans g0)) _ rfl HN2.out HL2.out g0.size ?_; intro ap2 cp2 W2 hA2; have k0 := hA2.modF g0 (Nat.le_refl _); have k4 := k0.cellAt c4 (fun h => h); have k7 := k0.cellAt c7 (fun h => h)))
      go_wp2
      go_ret
      refine ⟨_, rfl, ?_, hM'.out.trans k0⟩
      have := hA2.own.mono (B' := w.heap.size) (by omega)
      simpa using this
end Go.Proofs.YtolbeamphmoimaaDoor
