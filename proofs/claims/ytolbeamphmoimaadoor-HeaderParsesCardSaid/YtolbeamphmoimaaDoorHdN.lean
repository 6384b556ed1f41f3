/- The program's Parse of bytes that are no long header. -/
import Derived.Test.YtolbeamphmoimaaDoorHdM
import Derived.Test.YtolbeamphmoimaaDoorScope
namespace Go.Proofs.YtolbeamphmoimaaDoor
open Go.RowKit

/-- A header's slices lie in blocks of the call's own. -/
structure HdO (w : World) (B : Nat) (h : Hd) (d s t c : Value) : Prop where
  d : OwnB w B d h.dst
  s : OwnB w B s h.src
  t : OwnB w B t h.tok
  c : OwnB w B c h.cut
def ParseOut (w : World) (R : Hd × Int × Int) (e : Ending) (w' : World) : Prop :=
  ∃ d s t c, e = .returned (.tuple #[hdV R.1 d s t c, .int .i64 R.2.1, .int .i64 R.2.2]) ∧ HdV w' R.1 d s t c ∧ Mod (fun _ => False) w w' ∧ HdO w' w.heap.size R.1 d s t c

theorem ps_new {w w1 : World} {rb : Nat} {s : RS} (hr : Rdr w1 rb s) (hrb : w.heap.size + 2 ≤ rb) (hM : Mod (fun _ => False) ((w.alloc (.cells #[.bool false, .bool false, .int .i64 0, .int .u32 0, .slice none 0 0, .slice none 0 0, .slice none 0 0, .slice none 0 0, .int .i64 0] 25)).alloc (.cells #[.bool false, .bool false, .int .i64 0, .int .u32 0, .slice none 0 0, .slice none 0 0, .slice none 0 0, .slice none 0 0, .int .i64 0] 25)) w1) :
    PS w w1 (w.heap.size + 1) rb (.bool false) (.bool false) (.int .i64 0) (.int .u32 0) (.slice none 0 0) (.slice none 0 0) (.slice none 0 0) (.slice none 0 0) (.int .i64 0) s := by
  refine ⟨?_, hM.blk ((Blk.new w _ _).alloc _) (fun h => h), hr, by omega, by omega, ((((Mod.refl (fun _ => False) w).alloc _).alloc _).trans hM).mono (fun _ _ h => h.elim)⟩
  have := hM.blk (Blk.new (w.alloc (.cells #[.bool false, .bool false, .int .i64 0, .int .u32 0, .slice none 0 0, .slice none 0 0, .slice none 0 0, .slice none 0 0, .int .i64 0] 25)) #[.bool false, .bool false, .int .i64 0, .int .u32 0, .slice none 0 0, .slice none 0 0, .slice none 0 0, .slice none 0 0, .int .i64 0] 25) (fun h => h)
  rwa [show ∀ o, (w.alloc o).heap.size = w.heap.size + 1 from fun o => by simp] at this

theorem zero_hdv (w : World) : HdV w Hd.zero (.slice none 0 0) (.slice none 0 0) (.slice none 0 0) (.slice none 0 0) :=
  ⟨Sl.nil _ _, Sl.nil _ _, Sl.nil _ _, Sl.nil _ _, by decide, by decide, by decide, by decide, by decide, by decide, by decide⟩
theorem zero_hdo (w : World) (B : Nat) : HdO w B Hd.zero (.slice none 0 0) (.slice none 0 0) (.slice none 0 0) (.slice none 0 0) := ⟨OwnB.nil _ _, OwnB.nil _ _, OwnB.nil _ _, OwnB.nil _ _⟩
theorem hdv_mk {w : World} {d s t c : Value} (lo ph : Bool) (ki : Int) (ve : Nat) (D S T C : List UInt8) (re : Int) (hd : Byts w d D) (hs : Byts w s S) (ht : Byts w t T) (hc : Byts w c C) (hv : (ve : Int) < 4294967296) (dl : (D.length : Int) ≤ 1000) (sl : (S.length : Int) ≤ 1000) (tl : (T.length : Int) ≤ 100000) (cl : (C.length : Int) ≤ 1000) (hk : 0 ≤ ki ∧ ki ≤ 3) (hr : 0 ≤ re ∧ re ≤ 9223372036854775807) : HdV w ⟨lo, ph, ki, ve, D, S, T, C, re⟩ d s t c := by
  refine ⟨hd, hs, ht, hc, ?_, ?_, ?_, ?_, ?_, ?_, ?_⟩ <;> simp only <;> omega
theorem end_on {w X : World} {h : Hd} {d s t c : Value} (n : Int) (hv : HdV w h d s t c) (hM : Mod (fun _ => False) w X) :
    Calls Tryd.prog 36 #[hdV h d s t c, .int .i64 n] X fun e Y => e = .returned (endL h n d s t c) ∧ Mod (fun _ => False) w Y :=
  (end_any n (hv.kept hM)).mono fun _ _ h => ⟨h.1, hM.trans h.2⟩
theorem own_fin {W Y : World} {rb b : Nat} {v : Value} {l : List UInt8} (ho : OwnB W (rb + 1) v l) (hM : Mod (fun _ => False) W Y) (h : b < rb) (v0 v1 v2 v3 v4 v5 v6 v7 v8 : Value) : OwnB (set9 Y b v0 v1 v2 v3 v4 v5 v6 v7 v8) (rb + 1) v l :=
  ((ho.keptF hM).kept (mod_set9 v0 v1 v2 v3 v4 v5 v6 v7 v8 (Mod.refl (fun k => k = b) Y) (fun _ => rfl)) (fun g hg e => by have := (World.ownsRow.lt (ho.keptF hM) g hg).1; have e' : g = b := e; omega))
theorem parseOut_of {w : World} {R R' : Hd × Int × Int} {e : Ending} {w' : World} (h : R' = R) (hp : ParseOut w R e w') : ParseOut w R' e w' := h ▸ hp
theorem mod_fin {w w' : World} (h : Mod (fun k => w.heap.size ≤ k) w w') : Mod (fun _ => False) w w' := h.mono (fun i hi h' => by have h2 : w.heap.size ≤ i := h'; omega)

set_option maxHeartbeats 4000000 in
set_option maxRecDepth 10000 in
theorem parse_form {w : World} {v : Value} {l : List UInt8} {c : UInt8} {s1 : RS} (h : Byts w v l) (hl : (l.length : Int) ≤ 5000) (h0 : RS.byte ⟨l, 0⟩ = (c, s1)) (he : s1.e = 0) (h64 : c.toNat / 64 % 2 = 0) :
    Calls Tryd.prog 19 #[v] w (ParseOut w (Hd.zero, 0, 3)) := by
  have H := Lib.hid h
  have HL := Lib.hid hl
  obtain ⟨a0, c0, rfl, _⟩ := byts_val h
  have H0 := Lib.hid h0
  have hc := c.toNat_lt
  have hci : (c.toNat : Int) < 256 := by omega
  obtain ⟨t3, t64, t128, t56, t4, t12, t16⟩ := bits_and c
  rw [decide_eq_true h64] at t64
  have tb : (s1.e == 0) = true := by simp [he]
  have HB := Lib.hid (fun w' (hM : Mod (fun _ => False) w w') => read_any (H.out.kept hM (fun _ _ h => h)) (by omega))
  clear h hl h0 hc he h64 t128 t56 t4 t12 t16
  go_enter Tryd.func19, Tryd.ntmps19
  go_wp2_with fail
  refine wp_scope_fwd ?_
  go_wp2_with fail
  refine (HB.out _ (((Mod.refl _ w).alloc _).alloc _)).mono ?_
  rintro e w1 ⟨rb, rfl, hrb, hr, hM1⟩
  have hP := Lib.hid (ps_new hr (by simpa using hrb) hM1)
  clear hr hM1 hrb
  go_wp2_with fail
  refine (byte_any hP.out.r).mono ?_
  rintro e w2 ⟨rfl, hr2, hM2⟩
  rw [H0.out] at hr2 ⊢
  simp only at hr2 ⊢
  have hP2 := Lib.hid (hP.out.step hr2 hM2)
  clear hr2 hM2
  go_wp2_with fail
  refine (bad_any hP2.out.r).mono ?_
  rintro e w3 ⟨rfl, rfl⟩
  obtain ⟨⟨r0, r1, r2, r3, r4, r5, r6, r7, r8, r9⟩, ⟨f0, f1, f2, f3, f4, f5, f6, f7, f8⟩⟩ := hP2.out.rcells
  obtain ⟨c0, c1, c2, c3, c4, c5, c6, c7, c8, c9⟩ := hP2.out.cells
  obtain ⟨g0, g1, g2, g3, g4, g5, g6, g7, g8⟩ := hP2.out.frozen
  go_wp2_with ((first | (with_reducible refine wp_label ?_) | ((with_reducible refine wp_goto ?_); refine fwd_goto 0 rfl ?_) | ((with_reducible refine wp_goto ?_); refine fwd_goto 1 rfl ?_)))
  refine noGoto_ret ?_
  rw [set9_eq]
  have HB2 := blk_set9 (.bool false) (.bool false) (.int .i64 0) (.int .u32 0) (.slice none 0 0) (.slice none 0 0) (.slice none 0 0) (.slice none 0 0) (.int .i64 0) hP2.out.res
  have hM2 := mod_set9 (b := w.heap.size) (.bool false) (.bool false) (.int .i64 0) (.int .u32 0) (.slice none 0 0) (.slice none 0 0) (.slice none 0 0) (.slice none 0 0) (.int .i64 0) hP2.out.mod (fun _ => Nat.le_refl _)
  obtain ⟨q0, q1, q2, q3, q4, q5, q6, q7, q8, _⟩ := hd_cells HB2
  refine bodyPost_ret (v := .tuple #[_, _, _]) ?_ rfl (parseOut_of rfl ⟨.slice none 0 0, .slice none 0 0, .slice none 0 0, .slice none 0 0, rfl, zero_hdv _, mod_fin hM2, zero_hdo _ _⟩)
  simp [results, Tryd.results19, go_sem, q0, q1, q2, q3, q4, q5, q6, q7, q8, Hd.zero, hdV]

set_option maxHeartbeats 4000000 in
set_option maxRecDepth 10000 in
theorem parse_still {w : World} {v : Value} {l : List UInt8} {c : UInt8} {s1 : RS} (h : Byts w v l) (hl : (l.length : Int) ≤ 5000) (h0 : RS.byte ⟨l, 0⟩ = (c, s1)) (hp : s1.e = 0 → ¬ c.toNat / 64 % 2 = 0) (h128 : ¬ 128 ≤ c.toNat) (h8 : ¬ c.toNat / 8 % 8 = 0) :
    Calls Tryd.prog 19 #[v] w (ParseOut w (Hd.zero, 0, 3)) := by
  have H := Lib.hid h
  have HL := Lib.hid hl
  obtain ⟨a0, c0, rfl, _⟩ := byts_val h
  have H0 := Lib.hid h0
  have hc := c.toNat_lt
  have hci : (c.toNat : Int) < 256 := by omega
  obtain ⟨t3, t64, t128, t56, t4, t12, t16⟩ := bits_and c
  have HP : Hid (s1.e = 0 → (bits .and .u8 (c.toNat : Int) 64 == 0) = false) := fun e => by rw [t64, decide_eq_false (hp e)]
  clear t64 hp
  rw [decide_eq_false h128] at t128
  rw [decide_eq_false h8] at t56
  have HB := Lib.hid (fun w' (hM : Mod (fun _ => False) w w') => read_any (H.out.kept hM (fun _ _ h => h)) (by omega))
  clear h hl h0 hc h128 h8 t4 t12 t16
  by_cases he : s1.e = 0
  case' pos => have tb : (s1.e == 0) = true := by simp [he]
  case' pos => have t64 := HP.out he
  case' neg => have tb : (s1.e == 0) = false := by simp [he]
  all_goals
    clear he
    go_enter Tryd.func19, Tryd.ntmps19
    go_wp2_with fail
    refine wp_scope_fwd ?_
    go_wp2_with fail
    refine (HB.out _ (((Mod.refl _ w).alloc _).alloc _)).mono ?_
    rintro e w1 ⟨rb, rfl, hrb, hr, hM1⟩
    have hP := Lib.hid (ps_new hr (by simpa using hrb) hM1)
    clear hr hM1 hrb
    go_wp2_with fail
    refine (byte_any hP.out.r).mono ?_
    rintro e w2 ⟨rfl, hr2, hM2⟩
    rw [H0.out] at hr2 ⊢
    simp only at hr2 ⊢
    have hP2 := Lib.hid (hP.out.step hr2 hM2)
    clear hr2 hM2
    go_wp2_with fail
    refine (bad_any hP2.out.r).mono ?_
    rintro e w3 ⟨rfl, rfl⟩
    obtain ⟨⟨r0, r1, r2, r3, r4, r5, r6, r7, r8, r9⟩, ⟨f0, f1, f2, f3, f4, f5, f6, f7, f8⟩⟩ := hP2.out.rcells
    obtain ⟨c0, c1, c2, c3, c4, c5, c6, c7, c8, c9⟩ := hP2.out.cells
    obtain ⟨g0, g1, g2, g3, g4, g5, g6, g7, g8⟩ := hP2.out.frozen
    have hP3 := Lib.hid (hP2.out.put0 (.bool false))
    go_wp2_with ((first | (with_reducible refine wp_label ?_) | ((with_reducible refine wp_goto ?_); refine fwd_goto 0 rfl ?_) | ((with_reducible refine wp_goto ?_); refine fwd_goto 1 rfl ?_)))
    refine noGoto_ret ?_
    rw [set9_eq]
    have HB2 := blk_set9 (.bool false) (.bool false) (.int .i64 0) (.int .u32 0) (.slice none 0 0) (.slice none 0 0) (.slice none 0 0) (.slice none 0 0) (.int .i64 0) hP3.out.res
    have hM2 := mod_set9 (b := w.heap.size) (.bool false) (.bool false) (.int .i64 0) (.int .u32 0) (.slice none 0 0) (.slice none 0 0) (.slice none 0 0) (.slice none 0 0) (.int .i64 0) hP3.out.mod (fun _ => Nat.le_refl _)
    obtain ⟨q0, q1, q2, q3, q4, q5, q6, q7, q8, _⟩ := hd_cells HB2
    refine bodyPost_ret (v := .tuple #[_, _, _]) ?_ rfl (parseOut_of rfl ⟨.slice none 0 0, .slice none 0 0, .slice none 0 0, .slice none 0 0, rfl, zero_hdv _, mod_fin hM2, zero_hdo _ _⟩)
    simp [results, Tryd.results19, go_sem, q0, q1, q2, q3, q4, q5, q6, q7, q8, Hd.zero, hdV]

end Go.Proofs.YtolbeamphmoimaaDoor
