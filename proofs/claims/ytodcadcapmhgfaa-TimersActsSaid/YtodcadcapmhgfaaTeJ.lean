/- Which timer comes ahead, as the shelf's sort wants it told: the world grows, draws go on. (printed by gentej.py out of XTeB) -/
import Derived.Test.YtodcadcapmhgfaaTeI
import Derived.Shelf.SlSortCmp.NoneTotal
namespace Go.Proofs.Ytodcadcapmhgfaa
open Go.RowKit

/-- Nothing that was there is written, and no draw is taken back. -/
def Gr (w w' : World) : Prop := Mod (fun _ => False) w w' ∧ w.drawn ≤ w'.drawn
theorem Gr.refl (w : World) : Gr w w := ⟨Mod.refl _ _, Nat.le_refl _⟩
theorem Gr.drew {a w : World} (h : Gr a w) : Gr a w.drew := ⟨h.1.drew, Nat.le_trans h.2 (Nat.le_succ _)⟩
theorem Gr.alloc {a w : World} (h : Gr a w) (o : Obj) : Gr a (w.alloc o) := ⟨h.1.alloc o, h.2⟩
theorem Gr.trans {a b c : World} (h : Gr a b) (k : Gr b c) : Gr a c := ⟨h.1.trans k.1, Nat.le_trans h.2 k.2⟩
theorem Gr.grow {w w' : World} (h : Gr w w') : ∃ q os, w' = Go.Sort.grow (w.drewN q) os := by
  obtain ⟨hM, hd⟩ := h
  refine ⟨w'.drawn - w.drawn, w'.heap.extract w.heap.size w'.heap.size, ?_⟩
  have hh : w'.heap = w.heap ++ w'.heap.extract w.heap.size w'.heap.size := by
    apply Array.ext_getElem?
    intro i
    by_cases hi : i < w.heap.size
    · rw [Array.getElem?_append_left hi]
      exact hM.block i hi (fun e => e)
    · rw [Array.getElem?_append_right (by omega), Array.getElem?_extract]
      have hs := hM.size
      by_cases h2 : i < w'.heap.size
      · rw [if_pos (by omega), show w.heap.size + (i - w.heap.size) = i by omega]
      · rw [if_neg (by omega)]
        exact Array.getElem?_eq_none (by omega)
  have h1 := hM.os
  have h2 := hM.tape
  have h3 := hM.output
  obtain ⟨hp, tp, dr, os, out⟩ := w'
  simp only [Go.Sort.grow, World.drewN] at *
  subst h1 h2 h3
  congr 1
  omega
set_option maxHeartbeats 4000000 in
set_option maxRecDepth 10000 in
theorem ahead_gr (a b : Tm) (w : World) : Calls Try.prog 31 #[.agg (tmA a), .agg (tmA b)] w fun e w' => e = .returned (.int .i64 (ahdZ a b)) ∧ Gr w w' := by
  have HB : Hid (Blk ((w.alloc (.cells (tmA a) 27)).alloc (.cells (tmA b) 27)) w.heap.size (tmA a) 27 ∧ Blk ((w.alloc (.cells (tmA a) 27)).alloc (.cells (tmA b) 27)) (w.heap.size + 1) (tmA b) 27) := by
    refine ⟨(Blk.new _ _ _).alloc _, ?_⟩
    have h := Blk.new (w.alloc (.cells (tmA a) 27)) (tmA b) 27
    rwa [show (w.alloc (.cells (tmA a) 27)).heap.size = w.heap.size + 1 by simp] at h
  have HM : Hid (Gr w ((w.alloc (.cells (tmA a) 27)).alloc (.cells (tmA b) 27))) := ((Gr.refl _).alloc _).alloc _
  have HZ : Hid (ahdZ a b = orZ (cmpZ a.t b.t) (cmpZ a.c b.c) (cmpZ a.k b.k)) := rfl
  generalize ahdZ a b = R at *
  obtain ⟨A, hA⟩ : ∃ x, x = tmA a := ⟨_, rfl⟩
  obtain ⟨B, hB⟩ : ∃ x, x = tmA b := ⟨_, rfl⟩
  rw [← hA, ← hB] at HB HM ⊢
  have HA := Lib.hid hA
  have HBB := Lib.hid hB
  clear hA hB
  go_enter Try.func31, Try.ntmps31
  go_wp2_with fail
  (try go_frame)
  generalize ((w.alloc (.cells A 27)).alloc (.cells B 27)) = W at *
  rw [HA.out, HBB.out] at HB
  refine wp_region_held_drew (S := fun X => Gr W X) (by kernel_rfl) (Gr.refl _).drew (fun hS => ?_)
  refine takeH (i := 0) (v := .pointer (some ⟨w.heap.size, 0, none⟩)) (some 5) rfl rfl (by kernel_rfl) (by kernel_rfl) (by kernel_rfl) (fun _ _ _ h => h) (Or.inl ⟨by rfl, fun X hX => ?_⟩) hS ?_
  · go_simp
  (try go_frame)
  refine takeH (i := 1) (v := .int .u64 (a.t : Int)) (some 6) rfl rfl (by kernel_rfl) (by kernel_rfl) (by kernel_rfl) (fun _ _ _ h => h) (Or.inl ⟨by rfl, fun X hX => ?_⟩) hS ?_
  · have c : X.cell? ⟨w.heap.size, 0, none⟩ = some (.int .u64 (a.t : Int)) := hX.1.cellAt (HB.out.1.cellAt 0 rfl) (fun h => h); go_simp
  (try go_frame)
  refine takeH (i := 2) (v := .pointer (some ⟨w.heap.size + 1, 0, none⟩)) (some 7) rfl rfl (by kernel_rfl) (by kernel_rfl) (by kernel_rfl) (fun _ _ _ h => h) (Or.inl ⟨by rfl, fun X hX => ?_⟩) hS ?_
  · go_simp
  (try go_frame)
  refine takeH (i := 3) (v := .int .u64 (b.t : Int)) (some 8) rfl rfl (by kernel_rfl) (by kernel_rfl) (by kernel_rfl) (fun _ _ _ h => h) (Or.inl ⟨by rfl, fun X hX => ?_⟩) hS ?_
  · have c : X.cell? ⟨w.heap.size + 1, 0, none⟩ = some (.int .u64 (b.t : Int)) := hX.1.cellAt (HB.out.2.cellAt 0 rfl) (fun h => h); go_simp
  (try go_frame)
  refine takeH (i := 5) (v := .pointer (some ⟨w.heap.size, 1, none⟩)) (some 10) rfl rfl (by kernel_rfl) (by kernel_rfl) (by kernel_rfl) (fun _ _ _ h => h) (Or.inl ⟨by rfl, fun X hX => ?_⟩) hS ?_
  · go_simp
  (try go_frame)
  refine takeH (i := 6) (v := .int .i64 a.c) (some 11) rfl rfl (by kernel_rfl) (by kernel_rfl) (by kernel_rfl) (fun _ _ _ h => h) (Or.inl ⟨by rfl, fun X hX => ?_⟩) hS ?_
  · have c : X.cell? ⟨w.heap.size, 1, none⟩ = some (.int .i64 a.c) := hX.1.cellAt (HB.out.1.cellAt 1 rfl) (fun h => h); go_simp
  (try go_frame)
  refine takeH (i := 7) (v := .pointer (some ⟨w.heap.size + 1, 1, none⟩)) (some 12) rfl rfl (by kernel_rfl) (by kernel_rfl) (by kernel_rfl) (fun _ _ _ h => h) (Or.inl ⟨by rfl, fun X hX => ?_⟩) hS ?_
  · go_simp
  (try go_frame)
  refine takeH (i := 8) (v := .int .i64 b.c) (some 13) rfl rfl (by kernel_rfl) (by kernel_rfl) (by kernel_rfl) (fun _ _ _ h => h) (Or.inl ⟨by rfl, fun X hX => ?_⟩) hS ?_
  · have c : X.cell? ⟨w.heap.size + 1, 1, none⟩ = some (.int .i64 b.c) := hX.1.cellAt (HB.out.2.cellAt 1 rfl) (fun h => h); go_simp
  (try go_frame)
  refine takeH (i := 10) (v := .pointer (some ⟨w.heap.size, 2, none⟩)) (some 15) rfl rfl (by kernel_rfl) (by kernel_rfl) (by kernel_rfl) (fun _ _ _ h => h) (Or.inl ⟨by rfl, fun X hX => ?_⟩) hS ?_
  · go_simp
  (try go_frame)
  refine takeH (i := 11) (v := .int .i64 a.k) (some 16) rfl rfl (by kernel_rfl) (by kernel_rfl) (by kernel_rfl) (fun _ _ _ h => h) (Or.inl ⟨by rfl, fun X hX => ?_⟩) hS ?_
  · have c : X.cell? ⟨w.heap.size, 2, none⟩ = some (.int .i64 a.k) := hX.1.cellAt (HB.out.1.cellAt 2 rfl) (fun h => h); go_simp
  (try go_frame)
  refine takeH (i := 12) (v := .pointer (some ⟨w.heap.size + 1, 2, none⟩)) (some 17) rfl rfl (by kernel_rfl) (by kernel_rfl) (by kernel_rfl) (fun _ _ _ h => h) (Or.inl ⟨by rfl, fun X hX => ?_⟩) hS ?_
  · go_simp
  (try go_frame)
  refine takeH (i := 13) (v := .int .i64 b.k) (some 18) rfl rfl (by kernel_rfl) (by kernel_rfl) (by kernel_rfl) (fun _ _ _ h => h) (Or.inl ⟨by rfl, fun X hX => ?_⟩) hS ?_
  · have c : X.cell? ⟨w.heap.size + 1, 2, none⟩ = some (.int .i64 b.k) := hX.1.cellAt (HB.out.2.cellAt 2 rfl) (fun h => h); go_simp
  (try go_frame)
  refine wpAnyH_ready (rs := [4]) (by kernel_rfl) (by simp) ?_
  refine AllReadyH.cons rfl (fun K hK => ?_) AllReadyH.nil
  go_simp
  refine (cmp_u a.t b.t _).mono ?_
  rintro e X4 ⟨rfl, rfl⟩
  refine hK.out _ _ hS (fun hS => ?_)
  clear hK K
  refine wpAnyH_ready (rs := [9]) (by kernel_rfl) (by simp) ?_
  refine AllReadyH.cons rfl (fun K hK => ?_) AllReadyH.nil
  go_simp
  refine (cmp_i a.c b.c _).mono ?_
  rintro e X9 ⟨rfl, rfl⟩
  refine hK.out _ _ hS (fun hS => ?_)
  clear hK K
  refine wpAnyH_ready (rs := [14]) (by kernel_rfl) (by simp) ?_
  refine AllReadyH.cons rfl (fun K hK => ?_) AllReadyH.nil
  go_simp
  refine (cmp_i a.k b.k _).mono ?_
  rintro e X14 ⟨rfl, rfl⟩
  refine hK.out _ _ hS (fun hS => ?_)
  clear hK K
  refine wpAnyH_ready (rs := [15]) (by kernel_rfl) (by simp) ?_
  refine AllReadyH.cons rfl (fun K hK => ?_) AllReadyH.nil
  go_simp
  refine hK.out _ _ (hS.alloc _) (fun hS => ?_)
  clear hK K
  refine wpAnyH_ready (rs := [16]) (by kernel_rfl) (by simp) ?_
  refine AllReadyH.cons rfl (fun K hK => ?_) AllReadyH.nil
  go_simp
  refine (or_any (x := cmpZ a.t b.t) (y := cmpZ a.c b.c) (z := cmpZ a.k b.k) ?_ ?_ ?_).mono ?_
  · exact (Blk.new _ #[.int .i64 (cmpZ a.t b.t), .int .i64 (cmpZ a.c b.c), .int .i64 (cmpZ a.k b.k)] _).cellAt 0 rfl
  · exact (Blk.new _ #[.int .i64 (cmpZ a.t b.t), .int .i64 (cmpZ a.c b.c), .int .i64 (cmpZ a.k b.k)] _).cellAt 1 rfl
  · exact (Blk.new _ #[.int .i64 (cmpZ a.t b.t), .int .i64 (cmpZ a.c b.c), .int .i64 (cmpZ a.k b.k)] _).cellAt 2 rfl
  rintro e X16 ⟨rfl, rfl⟩
  rw [← HZ.out]
  refine hK.out _ _ hS (fun hS => ?_)
  clear hK K
  refine takeH (i := 17) (v := .int .i64 R) (some 4) rfl rfl (by kernel_rfl) (by kernel_rfl) (by kernel_rfl) (fun _ _ _ h => h) (Or.inl ⟨by rfl, fun X hX => ?_⟩) hS ?_
  · go_simp
  (try go_frame)
  refine wpAnyH_done (by kernel_rfl) ?_ _
  have HM2 := Lib.hid (HM.out.trans hS)
  clear hS
  go_wp2_with fail
  go_ret
  exact ⟨rfl, HM2.out⟩
end Go.Proofs.Ytodcadcapmhgfaa
