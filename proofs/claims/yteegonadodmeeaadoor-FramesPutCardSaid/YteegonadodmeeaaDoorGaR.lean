/- The kinds' functions that read: the state, and the simple ones. (printed by gengar.py) -/
import Derived.Test.YteegonadodmeeaaDoorGaF
import Derived.Test.YteegonadodmeeaaDoorVarF
namespace Go.Proofs.YteegonadodmeeaaDoor
open Go.RowKit

/-- The call's own ranges. -/
def OwnR (w : World) (B : Nat) (v : Value) (l : List (Nat × Nat)) : Prop := w.ownsRow B 44 2 v l.length (l.flatMap rgC)
theorem OwnR.rgv {w : World} {B : Nat} {v : Value} {l : List (Nat × Nat)} (h : OwnR w B v l) : RgV w v l := Sl.ofOwn h
theorem OwnR.nil (w : World) (B : Nat) : OwnR w B (.slice none 0 0) [] := World.ownsRow_nil _ _ _ _
theorem OwnR.kept {S : Nat → Prop} {w w' : World} {B : Nat} {v : Value} {l : List (Nat × Nat)} (h : OwnR w B v l) (hM : Mod S w w') (hS : ∀ g, v.ownBlock = some g → ¬ S g) : OwnR w' B v l := hM.own h hS
def Fr.setId (f : Fr) (x : Nat) : Fr := ⟨f.k, x, f.a, f.b, f.c, f.fl, f.d, f.rs, f.t⟩
def Fr.setA (f : Fr) (x : Nat) : Fr := ⟨f.k, f.id, x, f.b, f.c, f.fl, f.d, f.rs, f.t⟩
def Fr.setB (f : Fr) (x : Nat) : Fr := ⟨f.k, f.id, f.a, x, f.c, f.fl, f.d, f.rs, f.t⟩
def Fr.setC (f : Fr) (x : Nat) : Fr := ⟨f.k, f.id, f.a, f.b, x, f.fl, f.d, f.rs, f.t⟩
def Fr.setF (f : Fr) (x : Bool) : Fr := ⟨f.k, f.id, f.a, f.b, f.c, x, f.d, f.rs, f.t⟩
def Fr.setD (f : Fr) (x : List UInt8) : Fr := ⟨f.k, f.id, f.a, f.b, f.c, f.fl, x, f.rs, f.t⟩
def Fr.setR (f : Fr) (x : List (Nat × Nat)) : Fr := ⟨f.k, f.id, f.a, f.b, f.c, f.fl, f.d, x, f.t⟩
def Fr.setT (f : Fr) (x : List UInt8) : Fr := ⟨f.k, f.id, f.a, f.b, f.c, f.fl, f.d, f.rs, x⟩
theorem frset_id (f : Fr) (vd vr : Value) (x : Nat) : (frC f vd vr).setIfInBounds 1 (.int .u64 (x : Int)) = frC (f.setId x) vd vr := by apply Array.toList_inj.1; simp [frC, frL, Fr.setId]
theorem frset_a (f : Fr) (vd vr : Value) (x : Nat) : (frC f vd vr).setIfInBounds 2 (.int .u64 (x : Int)) = frC (f.setA x) vd vr := by apply Array.toList_inj.1; simp [frC, frL, Fr.setA]
theorem frset_b (f : Fr) (vd vr : Value) (x : Nat) : (frC f vd vr).setIfInBounds 3 (.int .u64 (x : Int)) = frC (f.setB x) vd vr := by apply Array.toList_inj.1; simp [frC, frL, Fr.setB]
theorem frset_c (f : Fr) (vd vr : Value) (x : Nat) : (frC f vd vr).setIfInBounds 4 (.int .u64 (x : Int)) = frC (f.setC x) vd vr := by apply Array.toList_inj.1; simp [frC, frL, Fr.setC]
theorem frset_f (f : Fr) (vd vr : Value) (x : Bool) : (frC f vd vr).setIfInBounds 5 (.bool x) = frC (f.setF x) vd vr := by apply Array.toList_inj.1; simp [frC, frL, Fr.setF]
theorem frset_d (f : Fr) (vd vr v : Value) (x : List UInt8) : (frC f vd vr).setIfInBounds 6 v = frC (f.setD x) v vr := by apply Array.toList_inj.1; simp [frC, frL, Fr.setD]
theorem frset_r (f : Fr) (vd vr v : Value) (x : List (Nat × Nat)) : (frC f vd vr).setIfInBounds 7 v = frC (f.setR x) vd v := by apply Array.toList_inj.1; simp [frC, frL, Fr.setR]
/-- The state of a reading. -/
structure RdS (w0 w : World) (rb fb : Nat) (s : RS) (f : Fr) (vd vr : Value) : Prop where
  rd : Rdr w rb s
  fr : FrB w fb f vd vr
  od : OwnB w w0.heap.size vd f.d
  or : OwnR w w0.heap.size vr f.rs
  mod : Mod (fun j => j = rb ∨ j = fb) w0 w
  rl : rb < w0.heap.size
  fl : fb < w0.heap.size
  ne : ¬ fb = rb
theorem RdS.own {w0 w w' : World} {rb fb : Nat} {s : RS} {f : Fr} {vd vr v : Value} {l : List UInt8} (h : RdS w0 w rb fb s f vd vr) (ho : OwnB w w0.heap.size v l) (hM : Mod (fun k => k = rb ∨ k = fb) w w') : OwnB w' w0.heap.size v l :=
  hM.own ho (fun g hg e => by have := (World.ownsRow.lt ho g hg).1; have := h.rl; have := h.fl; omega)
theorem RdS.rd1 {w0 w w' : World} {rb fb : Nat} {s s' : RS} {f : Fr} {vd vr : Value} (h : RdS w0 w rb fb s f vd vr) (hM : Mod (fun k => k = rb) w w') (hr : Rdr w' rb s') : RdS w0 w' rb fb s' f vd vr :=
  ⟨hr, ⟨hM.blk h.fr.blk h.ne, h.fr.len⟩, hM.own h.od (fun g hg e => by have := (World.ownsRow.lt h.od g hg).1; have := h.rl; omega), h.or.kept hM (fun g hg e => by have := (World.ownsRow.lt h.or g hg).1; have := h.rl; omega), h.mod.trans (hM.mono (fun _ _ e => .inl e)), h.rl, h.fl, h.ne⟩
/-- A store into the frame. -/
theorem RdS.st {w0 w : World} {rb fb : Nat} {s : RS} {f g : Fr} {vd vr ud ur : Value} (h : RdS w0 w rb fb s f vd vr) (i : Nat) (v : Value) (hC : (frC f vd vr).setIfInBounds i v = frC g ud ur) (ht : g.t.length = 16) (hd : OwnB w w0.heap.size ud g.d) (hr : OwnR w w0.heap.size ur g.rs) : RdS w0 (w.setCell ⟨fb, i, none⟩ v) rb fb s g ud ur := by
  have hM : Mod (fun k => k = fb) w (w.setCell ⟨fb, i, none⟩ v) := (Mod.refl (fun k => k = fb) w).setCell (p := ⟨fb, i, none⟩) (fun _ => rfl) v
  refine ⟨hM.rdr h.rd (fun e => h.ne e.symm) (fun b cs hb e => ?_), ⟨hC ▸ h.fr.blk.set i v, ht⟩, hM.own hd (fun g hg e => by have := (World.ownsRow.lt hd g hg).1; have := h.fl; omega), hr.kept hM (fun g hg e => by have := (World.ownsRow.lt hr g hg).1; have := h.fl; omega), h.mod.trans (hM.mono (fun _ _ e => .inr e)), h.rl, h.fl, h.ne⟩
  subst e
  exact h.fr.blk.ne hb (by decide) rfl
theorem RdS.setId {w0 w : World} {rb fb : Nat} {s : RS} {f : Fr} {vd vr : Value} (h : RdS w0 w rb fb s f vd vr) (x : Nat) : RdS w0 (w.setCell ⟨fb, 1, none⟩ (.int .u64 (x : Int))) rb fb s (f.setId x) vd vr := h.st 1 _ (frset_id f vd vr x) h.fr.len h.od h.or
theorem RdS.setA {w0 w : World} {rb fb : Nat} {s : RS} {f : Fr} {vd vr : Value} (h : RdS w0 w rb fb s f vd vr) (x : Nat) : RdS w0 (w.setCell ⟨fb, 2, none⟩ (.int .u64 (x : Int))) rb fb s (f.setA x) vd vr := h.st 2 _ (frset_a f vd vr x) h.fr.len h.od h.or
theorem RdS.setB {w0 w : World} {rb fb : Nat} {s : RS} {f : Fr} {vd vr : Value} (h : RdS w0 w rb fb s f vd vr) (x : Nat) : RdS w0 (w.setCell ⟨fb, 3, none⟩ (.int .u64 (x : Int))) rb fb s (f.setB x) vd vr := h.st 3 _ (frset_b f vd vr x) h.fr.len h.od h.or
theorem RdS.setC {w0 w : World} {rb fb : Nat} {s : RS} {f : Fr} {vd vr : Value} (h : RdS w0 w rb fb s f vd vr) (x : Nat) : RdS w0 (w.setCell ⟨fb, 4, none⟩ (.int .u64 (x : Int))) rb fb s (f.setC x) vd vr := h.st 4 _ (frset_c f vd vr x) h.fr.len h.od h.or
theorem RdS.setF {w0 w : World} {rb fb : Nat} {s : RS} {f : Fr} {vd vr : Value} (h : RdS w0 w rb fb s f vd vr) (x : Bool) : RdS w0 (w.setCell ⟨fb, 5, none⟩ (.bool x)) rb fb s (f.setF x) vd vr := h.st 5 _ (frset_f f vd vr x) h.fr.len h.od h.or
theorem RdS.setD {w0 w : World} {rb fb : Nat} {s : RS} {f : Fr} {vd vr v : Value} {l : List UInt8} (h : RdS w0 w rb fb s f vd vr) (hv : OwnB w w0.heap.size v l) : RdS w0 (w.setCell ⟨fb, 6, none⟩ v) rb fb s (f.setD l) v vr := h.st 6 _ (frset_d f vd vr v l) h.fr.len hv h.or
theorem RdS.setR {w0 w : World} {rb fb : Nat} {s : RS} {f : Fr} {vd vr v : Value} {l : List (Nat × Nat)} (h : RdS w0 w rb fb s f vd vr) (hv : OwnR w w0.heap.size v l) : RdS w0 (w.setCell ⟨fb, 7, none⟩ v) rb fb s (f.setR l) vd v := h.st 7 _ (frset_r f vd vr v l) h.fr.len h.od hv
/-- What a reading leaves. -/
def ReadR (w : World) (rb fb : Nat) (R : Fr × RS) : Ending → World → Prop := fun e w' => e = .returned (.tuple #[]) ∧ ∃ vd vr, RdS w w' rb fb R.2 R.1 vd vr
def Reads (fn : Nat) (rd : Fr → RS → Fr × RS) : Prop := ∀ (w : World) (rb fb : Nat) (s : RS) (f : Fr) (vd vr : Value), RdS w w rb fb s f vd vr → (s.l.length : Int) ≤ 10000000 → Calls Tryd.prog fn #[.pointer (some ⟨rb, 0, none⟩), .pointer (some ⟨fb, 0, none⟩)] w (ReadR w rb fb (rd f s))
theorem bytes_le2 (s : RS) (n : Nat) : (s.bytes n).1.length ≤ s.l.length ∧ (s.bytes n).2.l.length ≤ s.l.length := by
  unfold RS.bytes
  split
  · simp
  · split
    · simp
    · simp; omega
theorem int_le (s : RS) : s.int.2.l.length ≤ s.l.length := by
  unfold RS.int
  split
  · unfold RS.fail; split <;> simp
  · split
    · unfold RS.fail; split <;> simp
    · exact (bytes_le2 s _).2
theorem fail_le (s : RS) (e : Int) : (s.fail e).l.length ≤ s.l.length := by unfold RS.fail; split <;> simp
set_option maxHeartbeats 2000000 in
set_option maxRecDepth 10000 in
theorem read1 : Reads 37 (fun f s => (f.setA s.int.1, s.int.2)) := by
  intro w rb fb s0 f vd vr hS hl
  have HS0 := Lib.hid hS
  clear hS hl
  show Calls _ _ _ _ _
  obtain ⟨R, hR⟩ : ∃ R, R = (fun (f : Fr) (s : RS) => (f.setA s.int.1, s.int.2)) f s0 := ⟨_, rfl⟩
  rw [← hR]
  have HR := Lib.hid hR
  clear hR
  go_enter Tryd.func37, Tryd.ntmps37
  go_wp2_with fail
  refine (int_any HS0.out.rd).mono ?_
  rintro e w1 ⟨rfl, hr, hM⟩
  have HS1 := Lib.hid (HS0.out.rd1 hM hr)
  clear hr hM
  have hcs := HS1.out.fr.cells
  obtain ⟨d0, d1, d2, d3, d4, d5, d6, d7⟩ := hcs
  have f2 := HS1.out.fr.blk.free 2
  go_wp2
  go_end0
  refine ⟨rfl, vd, vr, ?_⟩
  rw [HR.out]
  exact (HS1.out.setA (s0.int.1))
set_option maxHeartbeats 2000000 in
set_option maxRecDepth 10000 in
theorem read2 : Reads 39 (fun f s => (f.setId s.int.1, s.int.2)) := by
  intro w rb fb s0 f vd vr hS hl
  have HS0 := Lib.hid hS
  clear hS hl
  show Calls _ _ _ _ _
  obtain ⟨R, hR⟩ : ∃ R, R = (fun (f : Fr) (s : RS) => (f.setId s.int.1, s.int.2)) f s0 := ⟨_, rfl⟩
  rw [← hR]
  have HR := Lib.hid hR
  clear hR
  go_enter Tryd.func39, Tryd.ntmps39
  go_wp2_with fail
  refine (int_any HS0.out.rd).mono ?_
  rintro e w1 ⟨rfl, hr, hM⟩
  have HS1 := Lib.hid (HS0.out.rd1 hM hr)
  clear hr hM
  have hcs := HS1.out.fr.cells
  obtain ⟨d0, d1, d2, d3, d4, d5, d6, d7⟩ := hcs
  have f1 := HS1.out.fr.blk.free 1
  go_wp2
  go_end0
  refine ⟨rfl, vd, vr, ?_⟩
  rw [HR.out]
  exact (HS1.out.setId (s0.int.1))
set_option maxHeartbeats 2000000 in
set_option maxRecDepth 10000 in
theorem read3 : Reads 40 (fun f s => ((f.setId s.int.1).setA s.int.2.int.1, s.int.2.int.2)) := by
  intro w rb fb s0 f vd vr hS hl
  have HS0 := Lib.hid hS
  clear hS hl
  show Calls _ _ _ _ _
  obtain ⟨R, hR⟩ : ∃ R, R = (fun (f : Fr) (s : RS) => ((f.setId s.int.1).setA s.int.2.int.1, s.int.2.int.2)) f s0 := ⟨_, rfl⟩
  rw [← hR]
  have HR := Lib.hid hR
  clear hR
  go_enter Tryd.func40, Tryd.ntmps40
  go_wp2_with fail
  refine (int_any HS0.out.rd).mono ?_
  rintro e w1 ⟨rfl, hr, hM⟩
  have HS1 := Lib.hid (HS0.out.rd1 hM hr)
  clear hr hM
  go_wp2_with fail
  refine (int_any HS1.out.rd).mono ?_
  rintro e w2 ⟨rfl, hr, hM⟩
  have HS2 := Lib.hid (HS1.out.rd1 hM hr)
  clear hr hM
  have hcs := HS2.out.fr.cells
  obtain ⟨d0, d1, d2, d3, d4, d5, d6, d7⟩ := hcs
  have f1 := HS2.out.fr.blk.free 1
  have f2 := HS2.out.fr.blk.free 2
  go_wp2
  go_end0
  refine ⟨rfl, vd, vr, ?_⟩
  rw [HR.out]
  exact ((HS2.out.setId (s0.int.1)).setA (s0.int.2.int.1))
set_option maxHeartbeats 2000000 in
set_option maxRecDepth 10000 in
theorem read4 : Reads 41 (fun f s => (f.setD (s.bytes 8).1, (s.bytes 8).2)) := by
  intro w rb fb s0 f vd vr hS hl
  have HS0 := Lib.hid hS
  clear hS hl
  show Calls _ _ _ _ _
  obtain ⟨R, hR⟩ : ∃ R, R = (fun (f : Fr) (s : RS) => (f.setD (s.bytes 8).1, (s.bytes 8).2)) f s0 := ⟨_, rfl⟩
  rw [← hR]
  have HR := Lib.hid hR
  clear hR
  go_enter Tryd.func41, Tryd.ntmps41
  go_wp2_with fail
  refine (bytes_any 8 HS0.out.rd).mono ?_
  rintro e w1 ⟨v, rfl, ho, hr, hM⟩
  have HS1 := Lib.hid (HS0.out.rd1 hM hr)
  have HO := Lib.hid (ho.mono (B' := w.heap.size) HS0.out.mod.size)
  obtain ⟨a0, c0, rfl, _⟩ := byts_val ho.byts
  clear ho hr hM
  generalize hll : ((s0.bytes 8).1).length = ll at *
  have HLL := Lib.hid hll
  clear hll
  have hcs := HS1.out.fr.cells
  obtain ⟨d0, d1, d2, d3, d4, d5, d6, d7⟩ := hcs
  have f6 := HS1.out.fr.blk.free 6
  go_wp2
  go_end0
  refine ⟨rfl, .slice a0 ll c0, vr, ?_⟩
  rw [HR.out]
  exact (HS1.out.setD (HO.out))
set_option maxHeartbeats 2000000 in
set_option maxRecDepth 10000 in
theorem read21 : Reads 63 (fun f s => (((f.setId s.int.1).setC s.int.2.int.1).setA s.int.2.int.2.int.1, s.int.2.int.2.int.2)) := by
  intro w rb fb s0 f vd vr hS hl
  have HS0 := Lib.hid hS
  clear hS hl
  show Calls _ _ _ _ _
  obtain ⟨R, hR⟩ : ∃ R, R = (fun (f : Fr) (s : RS) => (((f.setId s.int.1).setC s.int.2.int.1).setA s.int.2.int.2.int.1, s.int.2.int.2.int.2)) f s0 := ⟨_, rfl⟩
  rw [← hR]
  have HR := Lib.hid hR
  clear hR
  go_enter Tryd.func63, Tryd.ntmps63
  go_wp2_with fail
  refine (int_any HS0.out.rd).mono ?_
  rintro e w1 ⟨rfl, hr, hM⟩
  have HS1 := Lib.hid (HS0.out.rd1 hM hr)
  clear hr hM
  go_wp2_with fail
  refine (int_any HS1.out.rd).mono ?_
  rintro e w2 ⟨rfl, hr, hM⟩
  have HS2 := Lib.hid (HS1.out.rd1 hM hr)
  clear hr hM
  go_wp2_with fail
  refine (int_any HS2.out.rd).mono ?_
  rintro e w3 ⟨rfl, hr, hM⟩
  have HS3 := Lib.hid (HS2.out.rd1 hM hr)
  clear hr hM
  have hcs := HS3.out.fr.cells
  obtain ⟨d0, d1, d2, d3, d4, d5, d6, d7⟩ := hcs
  have f1 := HS3.out.fr.blk.free 1
  have f4 := HS3.out.fr.blk.free 4
  have f2 := HS3.out.fr.blk.free 2
  go_wp2
  go_end0
  refine ⟨rfl, vd, vr, ?_⟩
  rw [HR.out]
  exact (((HS3.out.setId (s0.int.1)).setC (s0.int.2.int.1)).setA (s0.int.2.int.2.int.1))
set_option maxHeartbeats 2000000 in
set_option maxRecDepth 10000 in
theorem read24 : Reads 66 (fun f s => ((f.setId s.int.1).setC s.int.2.int.1, s.int.2.int.2)) := by
  intro w rb fb s0 f vd vr hS hl
  have HS0 := Lib.hid hS
  clear hS hl
  show Calls _ _ _ _ _
  obtain ⟨R, hR⟩ : ∃ R, R = (fun (f : Fr) (s : RS) => ((f.setId s.int.1).setC s.int.2.int.1, s.int.2.int.2)) f s0 := ⟨_, rfl⟩
  rw [← hR]
  have HR := Lib.hid hR
  clear hR
  go_enter Tryd.func66, Tryd.ntmps66
  go_wp2_with fail
  refine (int_any HS0.out.rd).mono ?_
  rintro e w1 ⟨rfl, hr, hM⟩
  have HS1 := Lib.hid (HS0.out.rd1 hM hr)
  clear hr hM
  go_wp2_with fail
  refine (int_any HS1.out.rd).mono ?_
  rintro e w2 ⟨rfl, hr, hM⟩
  have HS2 := Lib.hid (HS1.out.rd1 hM hr)
  clear hr hM
  have hcs := HS2.out.fr.cells
  obtain ⟨d0, d1, d2, d3, d4, d5, d6, d7⟩ := hcs
  have f1 := HS2.out.fr.blk.free 1
  have f4 := HS2.out.fr.blk.free 4
  go_wp2
  go_end0
  refine ⟨rfl, vd, vr, ?_⟩
  rw [HR.out]
  exact ((HS2.out.setId (s0.int.1)).setC (s0.int.2.int.1))
set_option maxHeartbeats 2000000 in
set_option maxRecDepth 10000 in
theorem read27 : Reads 70 (fun f s => ((f.setA s.int.1).setD (s.int.2.int.2.bytes s.int.2.int.1).1, (s.int.2.int.2.bytes s.int.2.int.1).2)) := by
  intro w rb fb s0 f vd vr hS hl
  have HS0 := Lib.hid hS
  clear hS hl
  show Calls _ _ _ _ _
  obtain ⟨R, hR⟩ : ∃ R, R = (fun (f : Fr) (s : RS) => ((f.setA s.int.1).setD (s.int.2.int.2.bytes s.int.2.int.1).1, (s.int.2.int.2.bytes s.int.2.int.1).2)) f s0 := ⟨_, rfl⟩
  rw [← hR]
  have HR := Lib.hid hR
  clear hR
  go_enter Tryd.func70, Tryd.ntmps70
  go_wp2_with fail
  refine (int_any HS0.out.rd).mono ?_
  rintro e w1 ⟨rfl, hr, hM⟩
  have HS1 := Lib.hid (HS0.out.rd1 hM hr)
  clear hr hM
  go_wp2_with fail
  refine (int_any HS1.out.rd).mono ?_
  rintro e w2 ⟨rfl, hr, hM⟩
  have HS2 := Lib.hid (HS1.out.rd1 hM hr)
  clear hr hM
  go_wp2_with fail
  refine (bytes_any (s0.int.2.int.1) HS2.out.rd).mono ?_
  rintro e w3 ⟨v, rfl, ho, hr, hM⟩
  have HS3 := Lib.hid (HS2.out.rd1 hM hr)
  have HO := Lib.hid (ho.mono (B' := w.heap.size) HS2.out.mod.size)
  obtain ⟨a0, c0, rfl, _⟩ := byts_val ho.byts
  clear ho hr hM
  generalize hll : ((s0.int.2.int.2.bytes (s0.int.2.int.1)).1).length = ll at *
  have HLL := Lib.hid hll
  clear hll
  have hcs := HS3.out.fr.cells
  obtain ⟨d0, d1, d2, d3, d4, d5, d6, d7⟩ := hcs
  have f2 := HS3.out.fr.blk.free 2
  have f6 := HS3.out.fr.blk.free 6
  go_wp2
  go_end0
  refine ⟨rfl, .slice a0 ll c0, vr, ?_⟩
  rw [HR.out]
  exact ((HS3.out.setA (s0.int.1)).setD ((HS3.out.own HO.out ((Mod.refl _ _).setCell (p := ⟨fb, _, none⟩) (fun _ => .inr rfl) _))))
set_option maxHeartbeats 2000000 in
set_option maxRecDepth 10000 in
theorem read30 : Reads 74 (fun f s => (f.setD (s.int.2.bytes s.int.1).1, (s.int.2.bytes s.int.1).2)) := by
  intro w rb fb s0 f vd vr hS hl
  have HS0 := Lib.hid hS
  clear hS hl
  show Calls _ _ _ _ _
  obtain ⟨R, hR⟩ : ∃ R, R = (fun (f : Fr) (s : RS) => (f.setD (s.int.2.bytes s.int.1).1, (s.int.2.bytes s.int.1).2)) f s0 := ⟨_, rfl⟩
  rw [← hR]
  have HR := Lib.hid hR
  clear hR
  go_enter Tryd.func74, Tryd.ntmps74
  go_wp2_with fail
  refine (int_any HS0.out.rd).mono ?_
  rintro e w1 ⟨rfl, hr, hM⟩
  have HS1 := Lib.hid (HS0.out.rd1 hM hr)
  clear hr hM
  go_wp2_with fail
  refine (bytes_any (s0.int.1) HS1.out.rd).mono ?_
  rintro e w2 ⟨v, rfl, ho, hr, hM⟩
  have HS2 := Lib.hid (HS1.out.rd1 hM hr)
  have HO := Lib.hid (ho.mono (B' := w.heap.size) HS1.out.mod.size)
  obtain ⟨a0, c0, rfl, _⟩ := byts_val ho.byts
  clear ho hr hM
  generalize hll : ((s0.int.2.bytes (s0.int.1)).1).length = ll at *
  have HLL := Lib.hid hll
  clear hll
  have hcs := HS2.out.fr.cells
  obtain ⟨d0, d1, d2, d3, d4, d5, d6, d7⟩ := hcs
  have f6 := HS2.out.fr.blk.free 6
  go_wp2
  go_end0
  refine ⟨rfl, .slice a0 ll c0, vr, ?_⟩
  rw [HR.out]
  exact (HS2.out.setD (HO.out))
theorem read14 : Reads 52 (fun f s => (f, s)) := by
  intro w rb fb s0 f vd vr hS hl
  have HS0 := Lib.hid hS
  clear hS hl
  go_enter Tryd.func52, Tryd.ntmps52
  go_wp2
  go_end0
  exact ⟨rfl, vd, vr, HS0.out⟩
end Go.Proofs.YteegonadodmeeaaDoor
