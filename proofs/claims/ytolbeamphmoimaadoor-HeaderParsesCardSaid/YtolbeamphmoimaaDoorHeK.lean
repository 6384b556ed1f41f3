/- The document's Parse of a header: its state. -/
import Derived.Test.YtolbeamphmoimaaDoorHdR
import Derived.Test.YtolbeamphmoimaaDoorHdK
import Derived.IntWalk
namespace Go.Proofs.YtolbeamphmoimaaDoor
open Go.RowKit

/-- While the document reads a header: the header's block, the empty one's, the result's, the reader. -/
structure RP (w0 w : World) (a : Option Addr) (cap : Nat) (L : List UInt8) (nb rb : Nat) (v0 v1 v2 v3 v4 v5 v6 v7 v8 : Value) (s : RS) : Prop where
  hdr : Blk w (w0.heap.size + 1) #[v0, v1, v2, v3, v4, v5, v6, v7, v8] 25
  non : Blk w nb #[.bool false, .bool false, .int .i64 0, .int .u32 0, .slice none 0 0, .slice none 0 0, .slice none 0 0, .slice none 0 0, .int .i64 0] 25
  res : Blk w w0.heap.size #[.bool false, .bool false, .int .i64 0, .int .u32 0, .slice none 0 0, .slice none 0 0, .slice none 0 0, .slice none 0 0, .int .i64 0] 25
  r : RefS w rb a cap L s
  nB : w0.heap.size + 1 < nb
  rB : nb < rb
  aB : L ≠ [] → ∀ x, a = some x → x.block < w0.heap.size
  lt : rb < w.heap.size
  mod : Mod (fun k => w0.heap.size ≤ k) w0 w
section
variable {w0 w w' : World} {a : Option Addr} {cap : Nat} {L : List UInt8} {nb rb : Nat} {v0 v1 v2 v3 v4 v5 v6 v7 v8 : Value} {s s' : RS}
theorem RP.step (h : RP w0 w a cap L nb rb v0 v1 v2 v3 v4 v5 v6 v7 v8 s) (hr : RefS w' rb a cap L s') (hM : Mod (fun k => k = rb) w w') : RP w0 w' a cap L nb rb v0 v1 v2 v3 v4 v5 v6 v7 v8 s' :=
  ⟨hM.blk h.hdr (fun e => by have := h.rB; have := h.nB; omega), hM.blk h.non (fun e => by have := h.rB; omega), hM.blk h.res (fun e => by have := h.rB; have := h.nB; omega), hr, h.nB, h.rB, h.aB, Nat.lt_of_lt_of_le h.lt hM.size, h.mod.trans' hM (fun i _ e => by have := h.rB; have := h.nB; omega)⟩
theorem RP.modS {u0 u1 u2 u3 u4 u5 u6 u7 u8 : Value} (h : RP w0 w a cap L nb rb v0 v1 v2 v3 v4 v5 v6 v7 v8 s) (hM : Mod (fun k => k = w0.heap.size + 1) w w') (hB : Blk w' (w0.heap.size + 1) #[u0, u1, u2, u3, u4, u5, u6, u7, u8] 25) : RP w0 w' a cap L nb rb u0 u1 u2 u3 u4 u5 u6 u7 u8 s :=
  ⟨hB, hM.blk h.non (fun e => by have := h.nB; omega), hM.blk h.res (fun e => by omega), hM.refs h.r (fun e => by have := h.nB; have := h.rB; omega) (fun hL x hx e => by have := h.aB hL x hx; omega), h.nB, h.rB, h.aB, Nat.lt_of_lt_of_le h.lt hM.size, h.mod.trans' hM (fun i _ e => by omega)⟩
theorem RP.put0 (h : RP w0 w a cap L nb rb v0 v1 v2 v3 v4 v5 v6 v7 v8 s) (u : Value) : RP w0 (w.setCell ⟨w0.heap.size + 1, 0, none⟩ u) a cap L nb rb u v1 v2 v3 v4 v5 v6 v7 v8 s :=
  h.modS ((Mod.refl (fun k => k = w0.heap.size + 1) w).setCell (p := ⟨w0.heap.size + 1, 0, none⟩) (fun _ => rfl) u) (Blk.set h.hdr 0 u)
theorem RP.put1 (h : RP w0 w a cap L nb rb v0 v1 v2 v3 v4 v5 v6 v7 v8 s) (u : Value) : RP w0 (w.setCell ⟨w0.heap.size + 1, 1, none⟩ u) a cap L nb rb v0 u v2 v3 v4 v5 v6 v7 v8 s :=
  h.modS ((Mod.refl (fun k => k = w0.heap.size + 1) w).setCell (p := ⟨w0.heap.size + 1, 1, none⟩) (fun _ => rfl) u) (Blk.set h.hdr 1 u)
theorem RP.put2 (h : RP w0 w a cap L nb rb v0 v1 v2 v3 v4 v5 v6 v7 v8 s) (u : Value) : RP w0 (w.setCell ⟨w0.heap.size + 1, 2, none⟩ u) a cap L nb rb v0 v1 u v3 v4 v5 v6 v7 v8 s :=
  h.modS ((Mod.refl (fun k => k = w0.heap.size + 1) w).setCell (p := ⟨w0.heap.size + 1, 2, none⟩) (fun _ => rfl) u) (Blk.set h.hdr 2 u)
theorem RP.put3 (h : RP w0 w a cap L nb rb v0 v1 v2 v3 v4 v5 v6 v7 v8 s) (u : Value) : RP w0 (w.setCell ⟨w0.heap.size + 1, 3, none⟩ u) a cap L nb rb v0 v1 v2 u v4 v5 v6 v7 v8 s :=
  h.modS ((Mod.refl (fun k => k = w0.heap.size + 1) w).setCell (p := ⟨w0.heap.size + 1, 3, none⟩) (fun _ => rfl) u) (Blk.set h.hdr 3 u)
theorem RP.put4 (h : RP w0 w a cap L nb rb v0 v1 v2 v3 v4 v5 v6 v7 v8 s) (u : Value) : RP w0 (w.setCell ⟨w0.heap.size + 1, 4, none⟩ u) a cap L nb rb v0 v1 v2 v3 u v5 v6 v7 v8 s :=
  h.modS ((Mod.refl (fun k => k = w0.heap.size + 1) w).setCell (p := ⟨w0.heap.size + 1, 4, none⟩) (fun _ => rfl) u) (Blk.set h.hdr 4 u)
theorem RP.put5 (h : RP w0 w a cap L nb rb v0 v1 v2 v3 v4 v5 v6 v7 v8 s) (u : Value) : RP w0 (w.setCell ⟨w0.heap.size + 1, 5, none⟩ u) a cap L nb rb v0 v1 v2 v3 v4 u v6 v7 v8 s :=
  h.modS ((Mod.refl (fun k => k = w0.heap.size + 1) w).setCell (p := ⟨w0.heap.size + 1, 5, none⟩) (fun _ => rfl) u) (Blk.set h.hdr 5 u)
theorem RP.put6 (h : RP w0 w a cap L nb rb v0 v1 v2 v3 v4 v5 v6 v7 v8 s) (u : Value) : RP w0 (w.setCell ⟨w0.heap.size + 1, 6, none⟩ u) a cap L nb rb v0 v1 v2 v3 v4 v5 u v7 v8 s :=
  h.modS ((Mod.refl (fun k => k = w0.heap.size + 1) w).setCell (p := ⟨w0.heap.size + 1, 6, none⟩) (fun _ => rfl) u) (Blk.set h.hdr 6 u)
theorem RP.put7 (h : RP w0 w a cap L nb rb v0 v1 v2 v3 v4 v5 v6 v7 v8 s) (u : Value) : RP w0 (w.setCell ⟨w0.heap.size + 1, 7, none⟩ u) a cap L nb rb v0 v1 v2 v3 v4 v5 v6 u v8 s :=
  h.modS ((Mod.refl (fun k => k = w0.heap.size + 1) w).setCell (p := ⟨w0.heap.size + 1, 7, none⟩) (fun _ => rfl) u) (Blk.set h.hdr 7 u)
theorem RP.put8 (h : RP w0 w a cap L nb rb v0 v1 v2 v3 v4 v5 v6 v7 v8 s) (u : Value) : RP w0 (w.setCell ⟨w0.heap.size + 1, 8, none⟩ u) a cap L nb rb v0 v1 v2 v3 v4 v5 v6 v7 u s :=
  h.modS ((Mod.refl (fun k => k = w0.heap.size + 1) w).setCell (p := ⟨w0.heap.size + 1, 8, none⟩) (fun _ => rfl) u) (Blk.set h.hdr 8 u)
theorem RP.keep (h : RP w0 w a cap L nb rb v0 v1 v2 v3 v4 v5 v6 v7 v8 s) (hM : Mod (fun _ => False) w w') : RP w0 w' a cap L nb rb v0 v1 v2 v3 v4 v5 v6 v7 v8 s :=
  ⟨hM.blk h.hdr (fun h => h), hM.blk h.non (fun h => h), hM.blk h.res (fun h => h), hM.refs h.r (fun h => h) (fun _ _ _ h => h), h.nB, h.rB, h.aB, Nat.lt_of_lt_of_le h.lt hM.size, h.mod.trans' hM (fun _ _ h => h.elim)⟩
theorem RP.own_new {v : Value} {l : List UInt8} (h : RP w0 w a cap L nb rb v0 v1 v2 v3 v4 v5 v6 v7 v8 s) (ho : OwnB w' w.heap.size v l) : OwnB w' (rb + 1) v l := by
  have := h.lt; exact ho.mono (by omega)
theorem RP.hB (h : RP w0 w a cap L nb rb v0 v1 v2 v3 v4 v5 v6 v7 v8 s) : w0.heap.size + 1 < rb := by have := h.nB; have := h.rB; omega
theorem RP.cells (h : RP w0 w a cap L nb rb v0 v1 v2 v3 v4 v5 v6 v7 v8 s) :
    w.cell? ⟨w0.heap.size + 1, 0, none⟩ = some v0 ∧ w.cell? ⟨w0.heap.size + 1, 1, none⟩ = some v1 ∧ w.cell? ⟨w0.heap.size + 1, 2, none⟩ = some v2 ∧ w.cell? ⟨w0.heap.size + 1, 3, none⟩ = some v3 ∧ w.cell? ⟨w0.heap.size + 1, 4, none⟩ = some v4 ∧ w.cell? ⟨w0.heap.size + 1, 5, none⟩ = some v5 ∧ w.cell? ⟨w0.heap.size + 1, 6, none⟩ = some v6 ∧ w.cell? ⟨w0.heap.size + 1, 7, none⟩ = some v7 ∧ w.cell? ⟨w0.heap.size + 1, 8, none⟩ = some v8 ∧ w0.heap.size + 1 < w.heap.size := hd_cells h.hdr
theorem RP.frozen (h : RP w0 w a cap L nb rb v0 v1 v2 v3 v4 v5 v6 v7 v8 s) :
    w.frozen? ⟨w0.heap.size + 1, 0, none⟩ = false ∧ w.frozen? ⟨w0.heap.size + 1, 1, none⟩ = false ∧ w.frozen? ⟨w0.heap.size + 1, 2, none⟩ = false ∧ w.frozen? ⟨w0.heap.size + 1, 3, none⟩ = false ∧ w.frozen? ⟨w0.heap.size + 1, 4, none⟩ = false ∧ w.frozen? ⟨w0.heap.size + 1, 5, none⟩ = false ∧ w.frozen? ⟨w0.heap.size + 1, 6, none⟩ = false ∧ w.frozen? ⟨w0.heap.size + 1, 7, none⟩ = false ∧ w.frozen? ⟨w0.heap.size + 1, 8, none⟩ = false :=
  ⟨h.hdr.free 0, h.hdr.free 1, h.hdr.free 2, h.hdr.free 3, h.hdr.free 4, h.hdr.free 5, h.hdr.free 6, h.hdr.free 7, h.hdr.free 8⟩
theorem RP.ncells (h : RP w0 w a cap L nb rb v0 v1 v2 v3 v4 v5 v6 v7 v8 s) :
    w.cell? ⟨nb, 0, none⟩ = some (.bool false) ∧ w.cell? ⟨nb, 1, none⟩ = some (.bool false) ∧ w.cell? ⟨nb, 2, none⟩ = some (.int .i64 0) ∧ w.cell? ⟨nb, 3, none⟩ = some (.int .u32 0) ∧ w.cell? ⟨nb, 4, none⟩ = some (.slice none 0 0) ∧ w.cell? ⟨nb, 5, none⟩ = some (.slice none 0 0) ∧ w.cell? ⟨nb, 6, none⟩ = some (.slice none 0 0) ∧ w.cell? ⟨nb, 7, none⟩ = some (.slice none 0 0) ∧ w.cell? ⟨nb, 8, none⟩ = some (.int .i64 0) ∧ nb < w.heap.size := hd_cells h.non
theorem RP.rcells (h : RP w0 w a cap L nb rb v0 v1 v2 v3 v4 v5 v6 v7 v8 s) :
    (w.cell? ⟨w0.heap.size, 0, none⟩ = some (.bool false) ∧ w.cell? ⟨w0.heap.size, 1, none⟩ = some (.bool false) ∧ w.cell? ⟨w0.heap.size, 2, none⟩ = some (.int .i64 0) ∧ w.cell? ⟨w0.heap.size, 3, none⟩ = some (.int .u32 0) ∧ w.cell? ⟨w0.heap.size, 4, none⟩ = some (.slice none 0 0) ∧ w.cell? ⟨w0.heap.size, 5, none⟩ = some (.slice none 0 0) ∧ w.cell? ⟨w0.heap.size, 6, none⟩ = some (.slice none 0 0) ∧ w.cell? ⟨w0.heap.size, 7, none⟩ = some (.slice none 0 0) ∧ w.cell? ⟨w0.heap.size, 8, none⟩ = some (.int .i64 0) ∧ w0.heap.size < w.heap.size) ∧
    (w.frozen? ⟨w0.heap.size, 0, none⟩ = false ∧ w.frozen? ⟨w0.heap.size, 1, none⟩ = false ∧ w.frozen? ⟨w0.heap.size, 2, none⟩ = false ∧ w.frozen? ⟨w0.heap.size, 3, none⟩ = false ∧ w.frozen? ⟨w0.heap.size, 4, none⟩ = false ∧ w.frozen? ⟨w0.heap.size, 5, none⟩ = false ∧ w.frozen? ⟨w0.heap.size, 6, none⟩ = false ∧ w.frozen? ⟨w0.heap.size, 7, none⟩ = false ∧ w.frozen? ⟨w0.heap.size, 8, none⟩ = false) :=
  ⟨hd_cells h.res, ⟨h.res.free 0, h.res.free 1, h.res.free 2, h.res.free 3, h.res.free 4, h.res.free 5, h.res.free 6, h.res.free 7, h.res.free 8⟩⟩
end
/-- What the walk reads of the document's reader. -/
theorem refs_cells {w : World} {tb cap : Nat} {a : Option Addr} {L : List UInt8} {s : RS} (h : RefS w tb a cap L s) :
    ∃ k : Nat, w.cell? ⟨tb, 1, none⟩ = some (.int .i64 (k : Int)) ∧ w.cell? ⟨tb, 2, none⟩ = some (.int .i64 s.e) ∧ (s.e = 0 → (k : Int) = L.length - s.l.length) ∧ (s.l.length : Int) ≤ 5000 ∧ tb < w.heap.size := by
  obtain ⟨k, e, rfl, hb, _, hk, h5, _⟩ := h
  refine ⟨k, hb.cellAt 1 rfl, hb.cellAt 2 rfl, fun he => ?_, ?_, hb.lt⟩
  · have he' : e = 0 := he
    subst he'
    simp [refS]; omega
  · unfold refS; simp only; split <;> simp <;> omega
def RefOut (w : World) (R : Hd × Int × Int) (e : Ending) (w' : World) : Prop :=
  ∃ d s t c, e = .returned (.tuple #[hdV R.1 d s t c, .int .i64 R.2.1, .int .i64 R.2.2]) ∧ HdV w' R.1 d s t c ∧ Mod (fun _ => False) w w'
theorem refOut_of {w : World} {R R' : Hd × Int × Int} {e : Ending} {w' : World} (h : R' = R) (hp : RefOut w R e w') : RefOut w R' e w' := h ▸ hp
theorem rp_new {w : World} {a : Option Addr} {n cap nb rb : Nat} {l : List UInt8} (h : Byts w (.slice a n cap) l) (hl : (l.length : Int) ≤ 5000) (hne : l ≠ []) (hn : nb = w.heap.size + 1 + 1) (hr : rb = w.heap.size + 1 + 1 + 1) :
    RP w ((((w.alloc (.cells #[.bool false, .bool false, .int .i64 0, .int .u32 0, .slice none 0 0, .slice none 0 0, .slice none 0 0, .slice none 0 0, .int .i64 0] 25)).alloc (.cells #[.bool false, .bool false, .int .i64 0, .int .u32 0, .slice none 0 0, .slice none 0 0, .slice none 0 0, .slice none 0 0, .int .i64 0] 25)).alloc (.cells #[.bool false, .bool false, .int .i64 0, .int .u32 0, .slice none 0 0, .slice none 0 0, .slice none 0 0, .slice none 0 0, .int .i64 0] 25)).alloc (.cells #[.slice a n cap, .int .i64 0, .int .i64 0] 58)) a cap l nb rb (.bool false) (.bool false) (.int .i64 0) (.int .u32 0) (.slice none 0 0) (.slice none 0 0) (.slice none 0 0) (.slice none 0 0) (.int .i64 0) ⟨l, 0⟩ := by
  subst hn hr
  have z1 : ∀ o : Obj, (w.alloc o).heap.size = w.heap.size + 1 := fun o => by simp
  have z2 : ∀ o o' : Obj, ((w.alloc o).alloc o').heap.size = w.heap.size + 1 + 1 := fun o o' => by simp
  have z3 : ∀ o o' o2 : Obj, (((w.alloc o).alloc o').alloc o2).heap.size = w.heap.size + 1 + 1 + 1 := fun o o' o2 => by simp
  obtain ⟨a', cap', e, _⟩ := byts_val h
  simp only [Value.slice.injEq] at e
  obtain ⟨rfl, rfl, rfl⟩ := e
  obtain ⟨b, off, c, e, _, _, hc⟩ := byts_addr h hne
  simp only [Value.slice.injEq] at e
  obtain ⟨rfl, _, rfl⟩ := e
  have hpos : 0 < l.length := List.length_pos_iff.2 hne
  have hblk : b < w.heap.size := block_lt_of_cell (hc 0 _ (List.getElem?_eq_getElem hpos))
  obtain ⟨Z, hZ⟩ : ∃ Z : Obj, Z = (.cells #[.bool false, .bool false, .int .i64 0, .int .u32 0, .slice none 0 0, .slice none 0 0, .slice none 0 0, .slice none 0 0, .int .i64 0] 25) := ⟨_, rfl⟩
  have b0 : Blk (w.alloc Z) w.heap.size #[.bool false, .bool false, .int .i64 0, .int .u32 0, .slice none 0 0, .slice none 0 0, .slice none 0 0, .slice none 0 0, .int .i64 0] 25 := by rw [hZ]; exact Blk.new w _ _
  have b1 : Blk ((w.alloc Z).alloc Z) (w.heap.size + 1) #[.bool false, .bool false, .int .i64 0, .int .u32 0, .slice none 0 0, .slice none 0 0, .slice none 0 0, .slice none 0 0, .int .i64 0] 25 := by have := Blk.new (w.alloc Z) #[.bool false, .bool false, .int .i64 0, .int .u32 0, .slice none 0 0, .slice none 0 0, .slice none 0 0, .slice none 0 0, .int .i64 0] 25; rw [z1, ← hZ] at this; exact this
  have b2 : Blk (((w.alloc Z).alloc Z).alloc Z) (w.heap.size + 1 + 1) #[.bool false, .bool false, .int .i64 0, .int .u32 0, .slice none 0 0, .slice none 0 0, .slice none 0 0, .slice none 0 0, .int .i64 0] 25 := by have := Blk.new ((w.alloc Z).alloc Z) #[.bool false, .bool false, .int .i64 0, .int .u32 0, .slice none 0 0, .slice none 0 0, .slice none 0 0, .slice none 0 0, .int .i64 0] 25; rw [z2, ← hZ] at this; exact this
  have b3 : Blk ((((w.alloc Z).alloc Z).alloc Z).alloc (.cells #[.slice (some ⟨b, off, none⟩) l.length cap, .int .i64 0, .int .i64 0] 58)) (w.heap.size + 1 + 1 + 1) #[.slice (some ⟨b, off, none⟩) l.length cap, .int .i64 0, .int .i64 0] 58 := by have := Blk.new (((w.alloc Z).alloc Z).alloc Z) #[.slice (some ⟨b, off, none⟩) l.length cap, .int .i64 0, .int .i64 0] 58; rw [z3] at this; exact this
  rw [← hZ]
  have hM : Mod (fun _ => False) w ((((w.alloc Z).alloc Z).alloc Z).alloc (.cells #[.slice (some ⟨b, off, none⟩) l.length cap, .int .i64 0, .int .i64 0] 58)) := ((((Mod.refl _ w).alloc _).alloc _).alloc _).alloc _
  refine ⟨((b1.alloc _).alloc _), b2.alloc _, ((b0.alloc _).alloc _).alloc _, ⟨0, 0, by simp [refS], b3, h.kept hM (fun _ _ h => h), Nat.zero_le _, by omega, fun _ x hx => ?_⟩, by omega, by omega, fun _ x hx => ?_, b3.lt, hM.mono (fun _ _ h => h.elim)⟩
  · cases hx; simp only; omega
  · cases hx; exact hblk
end Go.Proofs.YtolbeamphmoimaaDoor
