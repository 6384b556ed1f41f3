/- What a packet's bytes are read as: plain functions over a reader's state; the contracts of Put for whatever header, of 'end', of Peek. -/
import Derived.Test.YtolbeamphmoimaaDoorHdJ
namespace Go.Proofs.YtolbeamphmoimaaDoor
open Go.RowKit

/-- Whose a packet is. -/
def peekL (l : List UInt8) : List UInt8 × Bool × Bool :=
  let x0 := RS.byte ⟨l, 0⟩
  let x1 : Nat × RS := if 128 ≤ x0.1.toNat then (((x0.2.bytes 4).2.byte).1.toNat, ((x0.2.bytes 4).2.byte).2) else (8, x0.2)
  let x2 := x1.2.bytes x1.1
  if x2.2.e ≠ 0 ∨ x0.1.toNat / 64 % 2 = 0 ∨ 20 < x1.1 then ([], false, false) else (x2.1, decide (128 ≤ x0.1.toNat), true)

def Hd.zero : Hd := ⟨false, false, 0, 0, [], [], [], [], 0⟩
/-- The end of reading. -/
def finL (h : Hd) (n : Int) (e : Int) : Hd × Int × Int := if e ≠ 0 then (Hd.zero, 0, e) else if rightB h then (h, n, 0) else (Hd.zero, 0, 3)
def verOf (l : List UInt8) : Nat := l.foldl (fun n c => n * 256 + c.toNat) 0
/-- The header that bytes begin with, its length, an error's number. -/
def parseL (l : List UInt8) : Hd × Int × Int :=
  let x0 := RS.byte ⟨l, 0⟩
  let c := x0.1.toNat
  let cut := c % 4 + 1
  if x0.2.e = 0 ∧ c / 64 % 2 = 0 then (Hd.zero, 0, 3) else
  if c < 128 then
    if c / 8 % 8 ≠ 0 then (Hd.zero, 0, 3) else
    let x1 := x0.2.bytes 8
    let x2 := x1.2.bytes cut
    finL ⟨false, decide (c / 4 % 2 = 1), 0, 0, x1.1, [], [], x2.1, (x2.2.l.length : Int)⟩ ((l.length : Int) - x2.2.l.length) x2.2.e
  else
    if c / 4 % 4 ≠ 0 ∨ (c / 16 % 4 ≠ 0 ∧ c / 16 % 4 ≠ 2) then (Hd.zero, 0, 3) else
    let x1 := x0.2.bytes 4
    let x2 := x1.2.byte
    let x3 := x2.2.bytes x2.1.toNat
    let x4 := x3.2.byte
    let x5 := x4.2.bytes x4.1.toNat
    let x7 : List UInt8 × RS := if c / 16 % 4 = 0 then x5.2.int.2.bytes x5.2.int.1 else ([], x5.2)
    let x8 := x7.2.int
    if x8.2.e = 0 ∧ x8.1 < cut then (Hd.zero, 0, 3) else
    let s9 := if x8.2.l.length < x8.1 then x8.2.fail 2 else x8.2
    let x10 := s9.bytes cut
    finL ⟨true, false, ((c / 16 % 4 : Nat) : Int), verOf x1.1, x3.1, x5.1, x7.1, x10.1, ((x8.1 - cut : Nat) : Int)⟩ ((l.length : Int) - x10.2.l.length) x10.2.e

/-- Whose bits are whose. -/
theorem bits_and (x : UInt8) : bits .and .u8 (x.toNat : Int) 3 = ((x.toNat % 4 : Nat) : Int) ∧ (bits .and .u8 (x.toNat : Int) 64 == 0) = decide (x.toNat / 64 % 2 = 0) ∧ (bits .and .u8 (x.toNat : Int) 128 != 0) = decide (128 ≤ x.toNat) ∧
    (bits .and .u8 (x.toNat : Int) 56 != 0) = !decide (x.toNat / 8 % 8 = 0) ∧ (bits .and .u8 (x.toNat : Int) 4 != 0) = decide (x.toNat / 4 % 2 = 1) ∧ (bits .and .u8 (x.toNat : Int) 12 != 0) = !decide (x.toNat / 4 % 4 = 0) ∧
    bits .and .u8 ((x.toNat : Int) / 16) 3 = ((x.toNat / 16 % 4 : Nat) : Int) := by
  have h : ∀ x : Fin 256, bits .and .u8 ((x.val : Nat) : Int) 3 = ((x.val % 4 : Nat) : Int) ∧ (bits .and .u8 ((x.val : Nat) : Int) 64 == 0) = decide (x.val / 64 % 2 = 0) ∧ (bits .and .u8 ((x.val : Nat) : Int) 128 != 0) = decide (128 ≤ x.val) ∧
      (bits .and .u8 ((x.val : Nat) : Int) 56 != 0) = !decide (x.val / 8 % 8 = 0) ∧ (bits .and .u8 ((x.val : Nat) : Int) 4 != 0) = decide (x.val / 4 % 2 = 1) ∧ (bits .and .u8 ((x.val : Nat) : Int) 12 != 0) = !decide (x.val / 4 % 4 = 0) ∧
      bits .and .u8 (((x.val : Nat) : Int) / 16) 3 = ((x.val / 16 % 4 : Nat) : Int) := by decide +kernel
  exact h ⟨x.toNat, x.toNat_lt⟩

theorem hput_any {w : World} {h : Hd} {d s t c : Value} (hT : Tabs w) (hv : HdV w h d s t c) :
    Calls Tryd.prog 15 #[hdV h d s t c] w fun e w' => ∃ v, e = .returned v ∧ OwnW w' w.heap.size v (hputL h) ∧ Mod (fun _ => False) w w' := by
  cases hr : rightB h with
  | false => exact (hput_wrong hv hr).mono fun e w' ⟨he, hM⟩ => ⟨_, he, .inl ⟨rfl, by simp [hputL, hr]⟩, hM⟩
  | true =>
    cases hl : h.long with
    | false => exact hput_short hv hr hl
    | true => exact hput_long hT hv hr hl
theorem refhput_any {w : World} {h : Hd} {d s t c : Value} (hv : HdV w h d s t c) :
    Calls Tryd.prog 16 #[hdV h d s t c] w fun e w' => ∃ v, e = .returned v ∧ OwnB w' w.heap.size v (hputL h) ∧ Mod (fun _ => False) w w' := by
  cases hr : rightB h with
  | false => exact (refhput_wrong hv hr).mono fun e w' ⟨he, hM⟩ => ⟨_, he, by rw [show hputL h = [] by simp [hputL, hr]]; exact OwnB.nil _ _, hM⟩
  | true =>
    cases hl : h.long with
    | false => exact refhput_short hv hr hl
    | true => exact refhput_long hv hr hl

/-- A header's nine cells, written one by one. -/
def set9 (w : World) (b : Nat) (v0 v1 v2 v3 v4 v5 v6 v7 v8 : Value) : World := (((((((((w.setCell ⟨b, 0, none⟩ v0).setCell ⟨b, 1, none⟩ v1).setCell ⟨b, 2, none⟩ v2).setCell ⟨b, 3, none⟩ v3).setCell ⟨b, 4, none⟩ v4).setCell ⟨b, 5, none⟩ v5).setCell ⟨b, 6, none⟩ v6).setCell ⟨b, 7, none⟩ v7).setCell ⟨b, 8, none⟩ v8)
theorem set9_eq (w : World) (b : Nat) (v0 v1 v2 v3 v4 v5 v6 v7 v8 : Value) : (((((((((w.setCell ⟨b, 0, none⟩ v0).setCell ⟨b, 1, none⟩ v1).setCell ⟨b, 2, none⟩ v2).setCell ⟨b, 3, none⟩ v3).setCell ⟨b, 4, none⟩ v4).setCell ⟨b, 5, none⟩ v5).setCell ⟨b, 6, none⟩ v6).setCell ⟨b, 7, none⟩ v7).setCell ⟨b, 8, none⟩ v8) = set9 w b v0 v1 v2 v3 v4 v5 v6 v7 v8 := rfl
theorem blk_set9 {w : World} {b : Nat} {o0 o1 o2 o3 o4 o5 o6 o7 o8 : Value} {T : TypeId} (v0 v1 v2 v3 v4 v5 v6 v7 v8 : Value) (h : Blk w b #[o0, o1, o2, o3, o4, o5, o6, o7, o8] T) : Blk (set9 w b v0 v1 v2 v3 v4 v5 v6 v7 v8) b #[v0, v1, v2, v3, v4, v5, v6, v7, v8] T := by
  have h0 : Blk _ b #[v0, o1, o2, o3, o4, o5, o6, o7, o8] T := Blk.set h 0 v0
  have h1 : Blk _ b #[v0, v1, o2, o3, o4, o5, o6, o7, o8] T := Blk.set h0 1 v1
  have h2 : Blk _ b #[v0, v1, v2, o3, o4, o5, o6, o7, o8] T := Blk.set h1 2 v2
  have h3 : Blk _ b #[v0, v1, v2, v3, o4, o5, o6, o7, o8] T := Blk.set h2 3 v3
  have h4 : Blk _ b #[v0, v1, v2, v3, v4, o5, o6, o7, o8] T := Blk.set h3 4 v4
  have h5 : Blk _ b #[v0, v1, v2, v3, v4, v5, o6, o7, o8] T := Blk.set h4 5 v5
  have h6 : Blk _ b #[v0, v1, v2, v3, v4, v5, v6, o7, o8] T := Blk.set h5 6 v6
  have h7 : Blk _ b #[v0, v1, v2, v3, v4, v5, v6, v7, o8] T := Blk.set h6 7 v7
  have h8 : Blk _ b #[v0, v1, v2, v3, v4, v5, v6, v7, v8] T := Blk.set h7 8 v8
  exact h8
theorem mod_set9 {S : Nat → Prop} {a w : World} {b : Nat} (v0 v1 v2 v3 v4 v5 v6 v7 v8 : Value) (h : Mod S a w) (hb : b < a.heap.size → S b) : Mod S a (set9 w b v0 v1 v2 v3 v4 v5 v6 v7 v8) := (((((((((h.setCell (p := ⟨b, 0, none⟩) hb v0).setCell (p := ⟨b, 1, none⟩) hb v1).setCell (p := ⟨b, 2, none⟩) hb v2).setCell (p := ⟨b, 3, none⟩) hb v3).setCell (p := ⟨b, 4, none⟩) hb v4).setCell (p := ⟨b, 5, none⟩) hb v5).setCell (p := ⟨b, 6, none⟩) hb v6).setCell (p := ⟨b, 7, none⟩) hb v7).setCell (p := ⟨b, 8, none⟩) hb v8)
def endL (h : Hd) (n : Int) (d s t c : Value) : Value := if rightB h then .tuple #[hdV h d s t c, .int .i64 n, .int .i64 0] else .tuple #[hdV Hd.zero (.slice none 0 0) (.slice none 0 0) (.slice none 0 0) (.slice none 0 0), .int .i64 0, .int .i64 3]
set_option maxHeartbeats 2000000 in
set_option maxRecDepth 10000 in
theorem end_any {w : World} {h : Hd} {d s t c : Value} (n : Int) (hv : HdV w h d s t c) :
    Calls Tryd.prog 36 #[hdV h d s t c, .int .i64 n] w fun e w' => e = .returned (endL h n d s t c) ∧ Mod (fun _ => False) w w' := by
  have HR := Lib.hid (fun w' (hM : Mod (fun _ => False) w w') => right_any (hv.kept hM))
  obtain ⟨da, dc, rfl, _⟩ := byts_val hv.d
  obtain ⟨sa, sc, rfl, _⟩ := byts_val hv.s
  obtain ⟨ta, tc, rfl, _⟩ := byts_val hv.t
  obtain ⟨ca, cc, rfl, _⟩ := byts_val hv.c
  unfold endL
  unfold hdV at HR ⊢
  simp only [Hd.zero, Int.natCast_zero]
  clear hv
  cases hr : rightB h
  · rw [hr] at HR
    clear hr
    generalize h.dst.length = nd at *
    generalize h.src.length = ns at *
    generalize h.tok.length = nt at *
    generalize h.cut.length = nc at *
    generalize h.long = lo at *
    generalize h.phase = ph at *
    generalize h.kind = ki at *
    generalize h.ver = ve at *
    generalize h.rest = re at *
    simp only [Bool.false_eq_true, if_false]
    go_enter Tryd.func36, Tryd.ntmps36
    go_wp2_with fail
    refine (HR.out _ (((Mod.refl (fun _ => False) w).alloc _).alloc _)).mono ?_
    rintro e w1 ⟨rfl, hM⟩
    have HBh := hM.blk ((Blk.new w _ _).alloc _) (fun h => h)
    have HBr := hM.blk (Blk.new (w.alloc _) _ _) (fun h => h)
    rw [show ∀ o, (w.alloc o).heap.size = w.heap.size + 1 from fun o => by simp] at HBr
    obtain ⟨c0, c1, c2, c3, c4, c5, c6, c7, c8, hlt⟩ := hd_cells HBh
    obtain ⟨r0, r1, r2, r3, r4, r5, r6, r7, r8, hltr⟩ := hd_cells HBr
    have fr := fun i => HBr.free i
    have f0 := fr 0
    have f1 := fr 1
    have f2 := fr 2
    have f3 := fr 3
    have f4 := fr 4
    have f5 := fr 5
    have f6 := fr 6
    have f7 := fr 7
    have f8 := fr 8
    clear fr HBh
    have HH := Lib.hid HBr
    clear HBr
    go_wp2_with fail
    rw [set9_eq]
    have HB2 := blk_set9 (.bool false) (.bool false) (.int .i64 0) (.int .u32 0) (.slice none 0 0) (.slice none 0 0) (.slice none 0 0) (.slice none 0 0) (.int .i64 0) HH.out
    have hM2 := mod_set9 (b := w.heap.size + 1) (.bool false) (.bool false) (.int .i64 0) (.int .u32 0) (.slice none 0 0) (.slice none 0 0) (.slice none 0 0) (.slice none 0 0) (.int .i64 0) (((((Mod.refl (fun _ => False) w).alloc _).alloc _).trans hM)) (fun hlt => absurd hlt (by omega))
    obtain ⟨q0, q1, q2, q3, q4, q5, q6, q7, q8, _⟩ := hd_cells HB2
    refine bodyPost_ret (v := .tuple #[_, _, _]) ?_ rfl ⟨rfl, hM2⟩
    simp [results, Tryd.results36, go_sem, q0, q1, q2, q3, q4, q5, q6, q7, q8]
  · rw [hr] at HR
    clear hr
    generalize h.dst.length = nd at *
    generalize h.src.length = ns at *
    generalize h.tok.length = nt at *
    generalize h.cut.length = nc at *
    generalize h.long = lo at *
    generalize h.phase = ph at *
    generalize h.kind = ki at *
    generalize h.ver = ve at *
    generalize h.rest = re at *
    simp only [if_true]
    go_enter Tryd.func36, Tryd.ntmps36
    go_wp2_with fail
    refine (HR.out _ (((Mod.refl (fun _ => False) w).alloc _).alloc _)).mono ?_
    rintro e w1 ⟨rfl, hM⟩
    have HBh := hM.blk ((Blk.new w _ _).alloc _) (fun h => h)
    have HBr := hM.blk (Blk.new (w.alloc _) _ _) (fun h => h)
    rw [show ∀ o, (w.alloc o).heap.size = w.heap.size + 1 from fun o => by simp] at HBr
    obtain ⟨c0, c1, c2, c3, c4, c5, c6, c7, c8, hlt⟩ := hd_cells HBh
    obtain ⟨r0, r1, r2, r3, r4, r5, r6, r7, r8, hltr⟩ := hd_cells HBr
    have fr := fun i => HBr.free i
    have f0 := fr 0
    have f1 := fr 1
    have f2 := fr 2
    have f3 := fr 3
    have f4 := fr 4
    have f5 := fr 5
    have f6 := fr 6
    have f7 := fr 7
    have f8 := fr 8
    clear fr HBh
    have HH := Lib.hid HBr
    clear HBr
    go_wp2_with fail
    rw [set9_eq]
    have HB2 := blk_set9 (.bool lo) (.bool ph) (.int .i64 ki) (.int .u32 (ve : Int)) (.slice da nd dc) (.slice sa ns sc) (.slice ta nt tc) (.slice ca nc cc) (.int .i64 re) HH.out
    have hM2 := mod_set9 (b := w.heap.size + 1) (.bool lo) (.bool ph) (.int .i64 ki) (.int .u32 (ve : Int)) (.slice da nd dc) (.slice sa ns sc) (.slice ta nt tc) (.slice ca nc cc) (.int .i64 re) (((((Mod.refl (fun _ => False) w).alloc _).alloc _).trans hM)) (fun hlt => absurd hlt (by omega))
    obtain ⟨q0, q1, q2, q3, q4, q5, q6, q7, q8, _⟩ := hd_cells HB2
    refine bodyPost_ret (v := .tuple #[_, _, _]) ?_ rfl ⟨rfl, hM2⟩
    simp [results, Tryd.results36, go_sem, q0, q1, q2, q3, q4, q5, q6, q7, q8]
end Go.Proofs.YtolbeamphmoimaaDoor
