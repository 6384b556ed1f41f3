/- The program's Put of a header. -/
import Derived.Test.YtolbeamphmoimaaDoorHdF
namespace Go.Proofs.YtolbeamphmoimaaDoor
open Go.RowKit

theorem first_short (nc : Nat) (h1 : 1 ≤ nc) (h4 : nc ≤ 4) : Value.int .u8 (bits .or .i64 64 ((nc : Int) - 1) % 256) = bv (UInt8.ofNat (64 + (nc - 1) + 0)) := by
  rcases (show nc = 1 ∨ nc = 2 ∨ nc = 3 ∨ nc = 4 by omega) with rfl | rfl | rfl | rfl <;> (unfold bv; congr 1)
theorem first_short4 (nc : Nat) (h1 : 1 ≤ nc) (h4 : nc ≤ 4) : Value.int .u8 (bits .or .u8 (bits .or .i64 64 ((nc : Int) - 1) % 256) 4) = bv (UInt8.ofNat (64 + (nc - 1) + 4)) := by
  rcases (show nc = 1 ∨ nc = 2 ∨ nc = 3 ∨ nc = 4 by omega) with rfl | rfl | rfl | rfl <;> (unfold bv; congr 1)
/-- All of three parts that lie ready, the first of them a literal of bytes. -/
theorem all_lit {w w1 : World} {x : UInt8} {D C : List UInt8} {d c : Value} (hM : Mod (fun _ => False) w w1) (hD : Byts w1 d D) (hC : Byts w1 c C) (hL : (([[x], D, C] : List (List UInt8)).flatten.length : Int) ≤ 140737488355328) :
    Calls Tryd.prog 24 #[.slice (some ⟨w1.heap.size + 1, 0, none⟩) 3 3] ((w1.alloc (.cells #[bv x] 5)).alloc (.cells #[.slice (some ⟨w1.heap.size, 0, none⟩) 1 1, d, c] 23))
      fun e w' => ∃ v', e = .returned v' ∧ OwnW w' w.heap.size v' (x :: (D ++ C)) ∧ Mod (fun _ => False) w w' := by
  have hA : Mod (fun _ => False) w1 (w1.alloc (.cells #[bv x] 5)) := (Mod.refl _ _).alloc _
  have hb1 : Byts (w1.alloc (.cells #[bv x] 5)) (.slice (some ⟨w1.heap.size, 0, none⟩) 1 1) [x] := sl_lit w1 [bv x] 1 rfl (by decide) _
  have hb2 : Byts _ _ D := hD.kept hA (fun _ _ h => h)
  have hb3 : Byts _ _ C := hC.kept hA (fun _ _ h => h)
  have P := parts3 _ _ _ _ _ _ _ hb1 hb2 hb3 23
  rw [show (w1.alloc (.cells #[bv x] 5)).heap.size = w1.heap.size + 1 by simp] at P
  refine (all_any (n := 3) rfl (by decide) (by decide) P hL (by decide)).mono ?_
  rintro e w2 ⟨v, rfl, ho, hM2⟩
  have hs := hM.size
  exact ⟨v, rfl, by have := ho.mono (B' := w.heap.size) (by simp; omega); simpa using this, (((hM.alloc _).alloc _)).trans hM2⟩

set_option maxRecDepth 10000 in
theorem hput_short {w : World} {h : Hd} {d s t c : Value} (hv : HdV w h d s t c) (hr : rightB h = true) (hl : h.long = false) :
    Calls Tryd.prog 15 #[hdV h d s t c] w fun e w' => ∃ v, e = .returned v ∧ OwnW w' w.heap.size v (hputL h) ∧ Mod (fun _ => False) w w' := by
  have HV := Lib.hid hv
  have HR := Lib.hid (right_any (hv.kept ((Mod.refl (fun _ => False) w).alloc (.cells (hdV h d s t c).cells 25))))
  obtain ⟨l1, l2, l3, l4, l5, l6⟩ := right_len hr
  obtain ⟨k1, k2, k3, k4, k5⟩ := right_short hr hl
  have hL : hputL h = UInt8.ofNat (64 + (h.cut.length - 1) + if h.phase then 4 else 0) :: (h.dst ++ h.cut) := by simp [hputL, hr, hl]
  rw [hL]
  obtain ⟨X, hX⟩ : ∃ X, X = UInt8.ofNat (64 + (h.cut.length - 1) + if h.phase then 4 else 0) := ⟨_, rfl⟩
  rw [← hX]
  have HX := Lib.hid hX
  clear hX
  rw [hr] at HR
  obtain ⟨da, dc, rfl, _⟩ := byts_val hv.d
  obtain ⟨sa, sc, rfl, _⟩ := byts_val hv.s
  obtain ⟨ta, tc, rfl, _⟩ := byts_val hv.t
  obtain ⟨ca, cc, rfl, _⟩ := byts_val hv.c
  have HLL : Hid (∀ x : UInt8, (([[x], h.dst, h.cut] : List (List UInt8)).flatten.length : Int) ≤ 140737488355328) := by intro x; simp; omega
  have hcut : Hid (Byts w (.slice ca h.cut.length cc) h.cut) := hv.c
  have hdst : Hid (Byts w (.slice da h.dst.length dc) h.dst) := hv.d
  unfold hdV at HR ⊢
  clear hv HV hL k1 k2 k3 k4 l5 l6
  obtain ⟨nc, hnc⟩ : ∃ nc, nc = h.cut.length := ⟨_, rfl⟩
  obtain ⟨nd, hnd⟩ : ∃ nd, nd = h.dst.length := ⟨_, rfl⟩
  rw [← hnc] at HR HX hcut l1 l2 ⊢
  rw [← hnd] at HR hdst l3 ⊢
  rw [hl] at HR ⊢
  clear hr hnc hnd k5
  generalize h.src.length = ns at *
  generalize h.tok.length = nt at *
  generalize h.phase = ph at *
  generalize h.kind = ki at *
  generalize h.ver = ve at *
  generalize h.rest = re at *
  generalize h.dst = D at *
  generalize h.cut = C at *
  clear hl
  have l1i : (1 : Int) ≤ nc := by omega
  have l2i : (nc : Int) ≤ 4 := by omega
  all_goals
    go_enter Tryd.func15, Tryd.ntmps15
    go_wp2_with fail
    refine HR.out.mono ?_
    rintro e w1 ⟨rfl, hM⟩
    have hM' := ((Mod.refl (fun _ => False) w).alloc _).trans hM
    have HB := hM.blk (Blk.new _ _ _) (fun h => h)
    have c0 : w1.cell? ⟨w.heap.size, 0, none⟩ = some (.bool false) := HB.cellAt 0 rfl
    have c1 : w1.cell? ⟨w.heap.size, 1, none⟩ = some (.bool ph) := HB.cellAt 1 rfl
    have c4 : w1.cell? ⟨w.heap.size, 4, none⟩ = some (.slice da nd dc) := HB.cellAt 4 rfl
    have c7 : w1.cell? ⟨w.heap.size, 7, none⟩ = some (.slice ca _ cc) := HB.cellAt 7 rfl
    have hlt : w.heap.size < w1.heap.size := HB.lt
    clear HB HR
    cases ph
    all_goals
      go_wp2_with fail
      first | rw [first_short4 nc l1 l2, show UInt8.ofNat (64 + (nc - 1) + 4) = X from HX.out.symm] | rw [first_short nc l1 l2, show UInt8.ofNat (64 + (nc - 1) + 0) = X from HX.out.symm]
      refine (all_lit hM' (hdst.out.kept hM' (fun _ _ h => h)) (hcut.out.kept hM' (fun _ _ h => h)) (HLL.out _)).mono ?_
      rintro e w2 ⟨v, rfl, ho, hM2⟩
      go_wp2
      go_ret
      exact ⟨v, rfl, ho, hM2⟩
end Go.Proofs.YtolbeamphmoimaaDoor
