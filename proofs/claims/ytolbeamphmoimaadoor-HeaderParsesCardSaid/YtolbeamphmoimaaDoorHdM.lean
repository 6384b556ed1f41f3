/- The program's Parse: its state, and short headers. -/
import Derived.Test.YtolbeamphmoimaaDoorHdL
import Derived.Deep.RegionWith
namespace Go.Proofs.YtolbeamphmoimaaDoor
open Go.RowKit

/-- While a header is read: the header's block, the result's block, the reader. -/
structure PS (w0 w : World) (hb rb : Nat) (v0 v1 v2 v3 v4 v5 v6 v7 v8 : Value) (s : RS) : Prop where
  hdr : Blk w hb #[v0, v1, v2, v3, v4, v5, v6, v7, v8] 25
  res : Blk w w0.heap.size #[.bool false, .bool false, .int .i64 0, .int .u32 0, .slice none 0 0, .slice none 0 0, .slice none 0 0, .slice none 0 0, .int .i64 0] 25
  r : Rdr w rb s
  hB : w0.heap.size < hb
  rB : hb < rb
  mod : Mod (fun k => w0.heap.size ≤ k) w0 w
theorem PS.step {w0 w w' : World} {hb rb : Nat} {v0 v1 v2 v3 v4 v5 v6 v7 v8 : Value} {s s' : RS} (h : PS w0 w hb rb v0 v1 v2 v3 v4 v5 v6 v7 v8 s) (hr : Rdr w' rb s') (hM : Mod (fun k => k = rb) w w') : PS w0 w' hb rb v0 v1 v2 v3 v4 v5 v6 v7 v8 s' :=
  ⟨hM.blk h.hdr (fun e => by have := h.rB; omega), hM.blk h.res (fun e => by have := h.rB; have := h.hB; omega), hr, h.hB, h.rB, h.mod.trans' hM (fun i _ e => by have := h.rB; have := h.hB; omega)⟩
theorem PS.modS {w0 w w' : World} {hb rb : Nat} {v0 v1 v2 v3 v4 v5 v6 v7 v8 u0 u1 u2 u3 u4 u5 u6 u7 u8 : Value} {s : RS} (h : PS w0 w hb rb v0 v1 v2 v3 v4 v5 v6 v7 v8 s) (hM : Mod (fun k => k = hb) w w') (hB : Blk w' hb #[u0, u1, u2, u3, u4, u5, u6, u7, u8] 25) : PS w0 w' hb rb u0 u1 u2 u3 u4 u5 u6 u7 u8 s :=
  ⟨hB, hM.blk h.res (fun e => by have := h.hB; omega), hM.rdr h.r (fun e => by have := h.rB; omega) (fun b cs hb' e => Blk.ne hb' (e ▸ h.hdr) (by decide) rfl), h.hB, h.rB, h.mod.trans' hM (fun i _ e => by have := h.hB; omega)⟩
theorem PS.put0 {w0 w : World} {hb rb : Nat} {v0 v1 v2 v3 v4 v5 v6 v7 v8 : Value} {s : RS} (h : PS w0 w hb rb v0 v1 v2 v3 v4 v5 v6 v7 v8 s) (u : Value) : PS w0 (w.setCell ⟨hb, 0, none⟩ u) hb rb u v1 v2 v3 v4 v5 v6 v7 v8 s :=
  h.modS ((Mod.refl (fun k => k = hb) w).setCell (p := ⟨hb, 0, none⟩) (fun _ => rfl) u) (Blk.set h.hdr 0 u)
theorem PS.put1 {w0 w : World} {hb rb : Nat} {v0 v1 v2 v3 v4 v5 v6 v7 v8 : Value} {s : RS} (h : PS w0 w hb rb v0 v1 v2 v3 v4 v5 v6 v7 v8 s) (u : Value) : PS w0 (w.setCell ⟨hb, 1, none⟩ u) hb rb v0 u v2 v3 v4 v5 v6 v7 v8 s :=
  h.modS ((Mod.refl (fun k => k = hb) w).setCell (p := ⟨hb, 1, none⟩) (fun _ => rfl) u) (Blk.set h.hdr 1 u)
theorem PS.put2 {w0 w : World} {hb rb : Nat} {v0 v1 v2 v3 v4 v5 v6 v7 v8 : Value} {s : RS} (h : PS w0 w hb rb v0 v1 v2 v3 v4 v5 v6 v7 v8 s) (u : Value) : PS w0 (w.setCell ⟨hb, 2, none⟩ u) hb rb v0 v1 u v3 v4 v5 v6 v7 v8 s :=
  h.modS ((Mod.refl (fun k => k = hb) w).setCell (p := ⟨hb, 2, none⟩) (fun _ => rfl) u) (Blk.set h.hdr 2 u)
theorem PS.put3 {w0 w : World} {hb rb : Nat} {v0 v1 v2 v3 v4 v5 v6 v7 v8 : Value} {s : RS} (h : PS w0 w hb rb v0 v1 v2 v3 v4 v5 v6 v7 v8 s) (u : Value) : PS w0 (w.setCell ⟨hb, 3, none⟩ u) hb rb v0 v1 v2 u v4 v5 v6 v7 v8 s :=
  h.modS ((Mod.refl (fun k => k = hb) w).setCell (p := ⟨hb, 3, none⟩) (fun _ => rfl) u) (Blk.set h.hdr 3 u)
theorem PS.put4 {w0 w : World} {hb rb : Nat} {v0 v1 v2 v3 v4 v5 v6 v7 v8 : Value} {s : RS} (h : PS w0 w hb rb v0 v1 v2 v3 v4 v5 v6 v7 v8 s) (u : Value) : PS w0 (w.setCell ⟨hb, 4, none⟩ u) hb rb v0 v1 v2 v3 u v5 v6 v7 v8 s :=
  h.modS ((Mod.refl (fun k => k = hb) w).setCell (p := ⟨hb, 4, none⟩) (fun _ => rfl) u) (Blk.set h.hdr 4 u)
theorem PS.put5 {w0 w : World} {hb rb : Nat} {v0 v1 v2 v3 v4 v5 v6 v7 v8 : Value} {s : RS} (h : PS w0 w hb rb v0 v1 v2 v3 v4 v5 v6 v7 v8 s) (u : Value) : PS w0 (w.setCell ⟨hb, 5, none⟩ u) hb rb v0 v1 v2 v3 v4 u v6 v7 v8 s :=
  h.modS ((Mod.refl (fun k => k = hb) w).setCell (p := ⟨hb, 5, none⟩) (fun _ => rfl) u) (Blk.set h.hdr 5 u)
theorem PS.put6 {w0 w : World} {hb rb : Nat} {v0 v1 v2 v3 v4 v5 v6 v7 v8 : Value} {s : RS} (h : PS w0 w hb rb v0 v1 v2 v3 v4 v5 v6 v7 v8 s) (u : Value) : PS w0 (w.setCell ⟨hb, 6, none⟩ u) hb rb v0 v1 v2 v3 v4 v5 u v7 v8 s :=
  h.modS ((Mod.refl (fun k => k = hb) w).setCell (p := ⟨hb, 6, none⟩) (fun _ => rfl) u) (Blk.set h.hdr 6 u)
theorem PS.put7 {w0 w : World} {hb rb : Nat} {v0 v1 v2 v3 v4 v5 v6 v7 v8 : Value} {s : RS} (h : PS w0 w hb rb v0 v1 v2 v3 v4 v5 v6 v7 v8 s) (u : Value) : PS w0 (w.setCell ⟨hb, 7, none⟩ u) hb rb v0 v1 v2 v3 v4 v5 v6 u v8 s :=
  h.modS ((Mod.refl (fun k => k = hb) w).setCell (p := ⟨hb, 7, none⟩) (fun _ => rfl) u) (Blk.set h.hdr 7 u)
theorem PS.put8 {w0 w : World} {hb rb : Nat} {v0 v1 v2 v3 v4 v5 v6 v7 v8 : Value} {s : RS} (h : PS w0 w hb rb v0 v1 v2 v3 v4 v5 v6 v7 v8 s) (u : Value) : PS w0 (w.setCell ⟨hb, 8, none⟩ u) hb rb v0 v1 v2 v3 v4 v5 v6 v7 u s :=
  h.modS ((Mod.refl (fun k => k = hb) w).setCell (p := ⟨hb, 8, none⟩) (fun _ => rfl) u) (Blk.set h.hdr 8 u)
theorem PS.own {w0 w : World} {hb rb : Nat} {v0 v1 v2 v3 v4 v5 v6 v7 v8 v : Value} {s : RS} {l : List UInt8} (h : PS w0 w hb rb v0 v1 v2 v3 v4 v5 v6 v7 v8 s) (ho : OwnB w w.heap.size v l) : OwnB w (rb + 1) v l := by
  have := h.r.lt; exact ho.mono (by omega)
theorem PS.keep {w0 w w' : World} {hb rb : Nat} {v0 v1 v2 v3 v4 v5 v6 v7 v8 : Value} {s : RS} (h : PS w0 w hb rb v0 v1 v2 v3 v4 v5 v6 v7 v8 s) (hM : Mod (fun _ => False) w w') : PS w0 w' hb rb v0 v1 v2 v3 v4 v5 v6 v7 v8 s :=
  ⟨hM.blk h.hdr (fun h => h), hM.blk h.res (fun h => h), h.r.kept hM (fun _ _ h => h), h.hB, h.rB, h.mod.trans' hM (fun _ _ h => h.elim)⟩
theorem rdr_len {w : World} {rb : Nat} {s : RS} (h : Rdr w rb s) : (s.l.length : Int) ≤ 140737488355328 := by
  obtain ⟨_, _, _, _, _, _, _, h, _⟩ := h; omega
theorem PS.own_new {w0 w w' : World} {hb rb : Nat} {v0 v1 v2 v3 v4 v5 v6 v7 v8 v : Value} {s : RS} {l : List UInt8} (h : PS w0 w hb rb v0 v1 v2 v3 v4 v5 v6 v7 v8 s) (ho : OwnB w' w.heap.size v l) : OwnB w' (rb + 1) v l := by
  have := h.r.lt; exact ho.mono (by omega)
theorem own_r {w w' : World} {rb : Nat} {v : Value} {l : List UInt8} (ho : OwnB w (rb + 1) v l) (hM : Mod (fun k => k = rb) w w') : OwnB w' (rb + 1) v l :=
  ho.kept hM (fun g hg e => by have := (World.ownsRow.lt ho g hg).1; have e' : g = rb := e; omega)
theorem own_h {w : World} {rb hb i : Nat} {u v : Value} {l : List UInt8} (ho : OwnB w (rb + 1) v l) (h : hb < rb) : OwnB (w.setCell ⟨hb, i, none⟩ u) (rb + 1) v l :=
  ho.kept ((Mod.refl (fun k => k = hb) w).setCell (p := ⟨hb, i, none⟩) (fun _ => rfl) u) (fun g hg e => by have := (World.ownsRow.lt ho g hg).1; have e' : g = hb := e; omega)
/-- What the walk reads of the state. -/
theorem PS.cells {w0 w : World} {hb rb : Nat} {v0 v1 v2 v3 v4 v5 v6 v7 v8 : Value} {s : RS} (h : PS w0 w hb rb v0 v1 v2 v3 v4 v5 v6 v7 v8 s) :
    w.cell? ⟨hb, 0, none⟩ = some v0 ∧ w.cell? ⟨hb, 1, none⟩ = some v1 ∧ w.cell? ⟨hb, 2, none⟩ = some v2 ∧ w.cell? ⟨hb, 3, none⟩ = some v3 ∧ w.cell? ⟨hb, 4, none⟩ = some v4 ∧ w.cell? ⟨hb, 5, none⟩ = some v5 ∧ w.cell? ⟨hb, 6, none⟩ = some v6 ∧ w.cell? ⟨hb, 7, none⟩ = some v7 ∧ w.cell? ⟨hb, 8, none⟩ = some v8 ∧ hb < w.heap.size := hd_cells h.hdr
theorem PS.frozen {w0 w : World} {hb rb : Nat} {v0 v1 v2 v3 v4 v5 v6 v7 v8 : Value} {s : RS} (h : PS w0 w hb rb v0 v1 v2 v3 v4 v5 v6 v7 v8 s) :
    w.frozen? ⟨hb, 0, none⟩ = false ∧ w.frozen? ⟨hb, 1, none⟩ = false ∧ w.frozen? ⟨hb, 2, none⟩ = false ∧ w.frozen? ⟨hb, 3, none⟩ = false ∧ w.frozen? ⟨hb, 4, none⟩ = false ∧ w.frozen? ⟨hb, 5, none⟩ = false ∧ w.frozen? ⟨hb, 6, none⟩ = false ∧ w.frozen? ⟨hb, 7, none⟩ = false ∧ w.frozen? ⟨hb, 8, none⟩ = false :=
  ⟨h.hdr.free 0, h.hdr.free 1, h.hdr.free 2, h.hdr.free 3, h.hdr.free 4, h.hdr.free 5, h.hdr.free 6, h.hdr.free 7, h.hdr.free 8⟩
theorem PS.rcells {w0 w : World} {hb rb : Nat} {v0 v1 v2 v3 v4 v5 v6 v7 v8 : Value} {s : RS} (h : PS w0 w hb rb v0 v1 v2 v3 v4 v5 v6 v7 v8 s) : 
    (w.cell? ⟨w0.heap.size, 0, none⟩ = some (.bool false) ∧ w.cell? ⟨w0.heap.size, 1, none⟩ = some (.bool false) ∧ w.cell? ⟨w0.heap.size, 2, none⟩ = some (.int .i64 0) ∧ w.cell? ⟨w0.heap.size, 3, none⟩ = some (.int .u32 0) ∧ w.cell? ⟨w0.heap.size, 4, none⟩ = some (.slice none 0 0) ∧ w.cell? ⟨w0.heap.size, 5, none⟩ = some (.slice none 0 0) ∧ w.cell? ⟨w0.heap.size, 6, none⟩ = some (.slice none 0 0) ∧ w.cell? ⟨w0.heap.size, 7, none⟩ = some (.slice none 0 0) ∧ w.cell? ⟨w0.heap.size, 8, none⟩ = some (.int .i64 0) ∧ w0.heap.size < w.heap.size) ∧
    (w.frozen? ⟨w0.heap.size, 0, none⟩ = false ∧ w.frozen? ⟨w0.heap.size, 1, none⟩ = false ∧ w.frozen? ⟨w0.heap.size, 2, none⟩ = false ∧ w.frozen? ⟨w0.heap.size, 3, none⟩ = false ∧ w.frozen? ⟨w0.heap.size, 4, none⟩ = false ∧ w.frozen? ⟨w0.heap.size, 5, none⟩ = false ∧ w.frozen? ⟨w0.heap.size, 6, none⟩ = false ∧ w.frozen? ⟨w0.heap.size, 7, none⟩ = false ∧ w.frozen? ⟨w0.heap.size, 8, none⟩ = false) :=
  ⟨hd_cells h.res, ⟨h.res.free 0, h.res.free 1, h.res.free 2, h.res.free 3, h.res.free 4, h.res.free 5, h.res.free 6, h.res.free 7, h.res.free 8⟩⟩
end Go.Proofs.YtolbeamphmoimaaDoor
