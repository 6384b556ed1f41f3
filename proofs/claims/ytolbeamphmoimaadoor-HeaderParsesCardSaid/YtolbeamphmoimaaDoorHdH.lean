/- The program's Put of a long header. -/
import Derived.Test.YtolbeamphmoimaaDoorHdG
import Derived.Deep.RegionHeld3
import Derived.IntWalk
import Derived.Deep.DeepCutAuto
namespace Go.Proofs.YtolbeamphmoimaaDoor
open Go.RowKit

theorem hd_cells {w : World} {g : Nat} {v0 v1 v2 v3 v4 v5 v6 v7 v8 : Value} {T : TypeId} (h : Blk w g #[v0, v1, v2, v3, v4, v5, v6, v7, v8] T) :
    w.cell? ⟨g, 0, none⟩ = some v0 ∧ w.cell? ⟨g, 1, none⟩ = some v1 ∧ w.cell? ⟨g, 2, none⟩ = some v2 ∧ w.cell? ⟨g, 3, none⟩ = some v3 ∧ w.cell? ⟨g, 4, none⟩ = some v4 ∧ w.cell? ⟨g, 5, none⟩ = some v5 ∧ w.cell? ⟨g, 6, none⟩ = some v6 ∧ w.cell? ⟨g, 7, none⟩ = some v7 ∧ w.cell? ⟨g, 8, none⟩ = some v8 ∧ g < w.heap.size :=
  ⟨h.cellAt 0 rfl, h.cellAt 1 rfl, h.cellAt 2 rfl, h.cellAt 3 rfl, h.cellAt 4 rfl, h.cellAt 5 rfl, h.cellAt 6 rfl, h.cellAt 7 rfl, h.cellAt 8 rfl, h.lt⟩

theorem cell_ad (X : World) (o : Obj) (a : Addr) (v : Value) (h : X.cell? a = some v) : (X.alloc o).drew.cell? a = some v := (((Mod.refl (fun _ => False) X).alloc o).drew).cellAt h (fun h => h)
theorem cell_a (X : World) (o : Obj) (a : Addr) (v : Value) (h : X.cell? a = some v) : (X.alloc o).cell? a = some v := ((Mod.refl (fun _ => False) X).alloc o).cellAt h (fun h => h)
theorem mod_ad (w X : World) (o : Obj) (h : Mod (fun _ => False) w X) : Mod (fun _ => False) w (X.alloc o).drew := (h.alloc o).drew
theorem mod_a (w X : World) (o : Obj) (h : Mod (fun _ => False) w X) : Mod (fun _ => False) w (X.alloc o) := h.alloc o

theorem u8_wrap (n : Nat) : Value.int .u8 (IntKind.u8.wrap (n : Int)) = bv (UInt8.ofNat n) := by
  unfold bv
  congr 1
theorem first_long0 (nc : Nat) (h1 : 1 ≤ nc) (h4 : nc ≤ 4) : Value.int .u8 (bits .or .u8 (bits .or .u8 (bits .or .i64 64 ((nc : Int) - 1) % 256) 128) (IntKind.u8.wrap (IntKind.i64.wrap 0))) = bv (UInt8.ofNat (192 + 16 * 0 + (nc - 1))) := by
  rcases (show nc = 1 ∨ nc = 2 ∨ nc = 3 ∨ nc = 4 by omega) with rfl | rfl | rfl | rfl <;> (unfold bv; congr 1)

theorem all3_any {X : World} {g n : Nat} {v1 v2 v3 : Value} {l1 l2 l3 : List UInt8} (hg : g = X.heap.size) (h1 : Byts X v1 l1) (h2 : Byts X v2 l2) (h3 : Byts X v3 l3) (hn : l1.length + (l2.length + l3.length) = n) (hl : (n : Int) ≤ 140737488355328) :
    Calls Tryd.prog 24 #[.slice (some ⟨g, 0, none⟩) 3 3] (X.alloc (.cells #[v1, v2, v3] 23)) fun e Y => ∃ a cp, e = .returned (.slice a n cp) ∧ OwnW Y X.heap.size (.slice a n cp) (l1 ++ (l2 ++ l3)) ∧ Byts Y (.slice a n cp) (l1 ++ (l2 ++ l3)) ∧ Mod (fun _ => False) X Y := by
  subst hg
  refine (all_any (n := 3) rfl (by decide) (by decide) (parts3 X v1 v2 v3 l1 l2 l3 h1 h2 h3 23) (by simp; omega) (by decide)).mono ?_
  rintro e Y ⟨v, rfl, ho, hM⟩
  rw [show ([l1, l2, l3] : List (List UInt8)).flatten = l1 ++ (l2 ++ l3) by simp] at ho
  have hb := ho.byts
  obtain ⟨a, cp, rfl, _⟩ := byts_val hb
  have e3 : (l1 ++ (l2 ++ l3)).length = n := by simp; omega
  rw [e3] at hb ho ⊢
  exact ⟨a, cp, rfl, ho.mono (by simp), hb, ((Mod.refl (fun _ => False) X).alloc _).trans hM⟩

theorem first_long2 (nc : Nat) (h1 : 1 ≤ nc) (h4 : nc ≤ 4) : Value.int .u8 (bits .or .u8 (bits .or .u8 (bits .or .i64 64 ((nc : Int) - 1) % 256) 128) (IntKind.u8.wrap (IntKind.i64.wrap 32))) = bv (UInt8.ofNat (192 + 16 * 2 + (nc - 1))) := by
  rcases (show nc = 1 ∨ nc = 2 ∨ nc = 3 ∨ nc = 4 by omega) with rfl | rfl | rfl | rfl <;> (unfold bv; congr 1)
theorem hput_eq0 {h : Hd} {nc nt ve re : Nat} (hr : rightB h = true) (hl : h.long = true) (hk : h.kind = 0) (hc : nc = h.cut.length) (ht : nt = h.tok.length) (hv : ve = h.ver) (hre : (re : Int) = h.rest) :
    hputL h = (([UInt8.ofNat (192 + 16 * 0 + (nc - 1)), UInt8.ofNat (ve / 16777216), UInt8.ofNat (ve / 65536), UInt8.ofNat (ve / 256), UInt8.ofNat ve] ++ (cidL h.dst ++ cidL h.src)) ++ (putL nt ++ h.tok)) ++ (putL (nc + re) ++ h.cut) := by
  have e : h.rest.toNat = re := by omega
  simp [hputL, hr, hl, hk, e, ← hc, ← ht, ← hv]
theorem hput_eq2 {h : Hd} {nc ve re : Nat} (hr : rightB h = true) (hl : h.long = true) (hk : h.kind = 2) (hc : nc = h.cut.length) (hv : ve = h.ver) (hre : (re : Int) = h.rest) :
    hputL h = ([UInt8.ofNat (192 + 16 * 2 + (nc - 1)), UInt8.ofNat (ve / 16777216), UInt8.ofNat (ve / 65536), UInt8.ofNat (ve / 256), UInt8.ofNat ve] ++ (cidL h.dst ++ cidL h.src)) ++ (putL (nc + re) ++ h.cut) := by
  have e : h.rest.toNat = re := by omega
  simp [hputL, hr, hl, hk, e, ← hc, ← hv]

set_option maxHeartbeats 4000000 in
set_option maxRecDepth 10000 in
theorem hput_long {w : World} {h : Hd} {d s t c : Value} (hT : Tabs w) (hv : HdV w h d s t c) (hr : rightB h = true) (hl : h.long = true) :
    Calls Tryd.prog 15 #[hdV h d s t c] w fun e w' => ∃ v, e = .returned v ∧ OwnW w' w.heap.size v (hputL h) ∧ Mod (fun _ => False) w w' := by
  have HT := Lib.hid hT
  have HR := Lib.hid (right_any (hv.kept ((Mod.refl (fun _ => False) w).alloc (.cells (hdV h d s t c).cells 25))))
  obtain ⟨l1, l2, l3, l4, l5, l6⟩ := right_len hr
  obtain ⟨k1, k2, k3⟩ := right_long hr hl
  rw [hr] at HR
  have hver := hv.ver
  have HRR := Lib.hid hr
  have HL := Lib.hid hl
  obtain ⟨da, dc, rfl, _⟩ := byts_val hv.d
  obtain ⟨sa, sc, rfl, _⟩ := byts_val hv.s
  obtain ⟨ta, tc, rfl, _⟩ := byts_val hv.t
  obtain ⟨ca, cc, rfl, _⟩ := byts_val hv.c
  have hcut : Hid (Byts w (.slice ca h.cut.length cc) h.cut) := hv.c
  have hdst : Hid (Byts w (.slice da h.dst.length dc) h.dst) := hv.d
  have hsrc : Hid (Byts w (.slice sa h.src.length sc) h.src) := hv.s
  have htok : Hid (Byts w (.slice ta h.tok.length tc) h.tok) := hv.t
  have HCUT := hcut
  unfold hdV at HR ⊢
  obtain ⟨R, hR⟩ : ∃ R, R = hputL h := ⟨_, rfl⟩
  rw [← hR]
  have HRE := Lib.hid hR
  clear hv hR hT
  obtain ⟨nc, hnc⟩ : ∃ nc, nc = h.cut.length := ⟨_, rfl⟩
  obtain ⟨nd, hnd⟩ : ∃ nd, nd = h.dst.length := ⟨_, rfl⟩
  obtain ⟨ns, hns⟩ : ∃ ns, ns = h.src.length := ⟨_, rfl⟩
  obtain ⟨nt, hnt⟩ : ∃ nt, nt = h.tok.length := ⟨_, rfl⟩
  obtain ⟨ve, hve⟩ : ∃ ve, ve = h.ver := ⟨_, rfl⟩
  obtain ⟨re, hre⟩ : ∃ re : Nat, (re : Int) = h.rest := ⟨h.rest.toNat, by omega⟩
  rw [← hnc] at HR hcut HCUT l1 l2 ⊢
  rw [← hnd] at HR hdst l3 ⊢
  rw [← hns] at HR hsrc l4 ⊢
  rw [← hnt] at HR htok k2 k3 ⊢
  rw [← hve] at HR hver ⊢
  rw [← hre] at HR l5 l6 ⊢
  rw [hl, k1] at HR ⊢
  have HC := Lib.hid hnc
  have HD := Lib.hid hnd
  have HS := Lib.hid hns
  have HTK := Lib.hid hnt
  have HVE := Lib.hid hve
  have HRS := Lib.hid hre
  have HK := Lib.hid k3
  have hk2 : Hid (h.kind = 0 ∨ h.kind = 2) := k3.imp id And.left
  clear hr hl hnc hnd hns hnt hve hre k1 k3
  have l1i : (1 : Int) ≤ nc := by omega
  have l2i : (nc : Int) ≤ 4 := by omega
  have l3i : (nd : Int) ≤ 20 := by omega
  have l4i : (ns : Int) ≤ 20 := by omega
  have l6i : (re : Int) ≤ 1200 := by omega
  have k2i : (nt : Int) ≤ 200 := by omega
  rcases hk2.out with e | e
  · have HK0 := Lib.hid e
    rw [e] at HR ⊢
    clear e
    go_enter Tryd.func15, Tryd.ntmps15
    go_wp2_with fail
    refine HR.out.mono ?_
    rintro e w1 ⟨rfl, hM⟩
    have hM1 := ((Mod.refl (fun _ => False) w).alloc _).trans hM
    have HB : Blk w1 w.heap.size #[.bool true, .bool false, .int .i64 0, .int .u32 (ve : Int), .slice da nd dc, .slice sa ns sc, .slice ta nt tc, .slice ca nc cc, .int .i64 (re : Int)] 25 := hM.blk (Blk.new _ _ _) (fun h => h)
    obtain ⟨c0, c1, c2, c3, c4, c5, c6, c7, c8, hlt⟩ := hd_cells HB
    have HHB := Lib.hid HB
    clear HR HB hM
    have hM0 : Mod (fun _ => False) w1 w1 := Mod.refl _ _
    have hsa : Hid (∀ (X : World) (o : Obj), (X.cell? ⟨w.heap.size, 2, none⟩ = some (.int .i64 0) ∧ X.cell? ⟨w.heap.size, 4, none⟩ = some (.slice da nd dc) ∧ X.cell? ⟨w.heap.size, 5, none⟩ = some (.slice sa ns sc) ∧ Mod (fun _ => False) w1 X) → ((X.alloc o).cell? ⟨w.heap.size, 2, none⟩ = some (.int .i64 0) ∧ (X.alloc o).cell? ⟨w.heap.size, 4, none⟩ = some (.slice da nd dc) ∧ (X.alloc o).cell? ⟨w.heap.size, 5, none⟩ = some (.slice sa ns sc) ∧ Mod (fun _ => False) w1 (X.alloc o))) := by
      rintro X o ⟨h2, h4, h5, h6⟩
      have hA := (Mod.refl (fun _ => False) X).alloc o
      exact ⟨hA.cellAt h2 (fun h => h), hA.cellAt h4 (fun h => h), hA.cellAt h5 (fun h => h), h6.alloc o⟩
    have hsad : Hid (∀ (X : World) (o : Obj), (X.cell? ⟨w.heap.size, 2, none⟩ = some (.int .i64 0) ∧ X.cell? ⟨w.heap.size, 4, none⟩ = some (.slice da nd dc) ∧ X.cell? ⟨w.heap.size, 5, none⟩ = some (.slice sa ns sc) ∧ Mod (fun _ => False) w1 X) → (((X.alloc o).drew).cell? ⟨w.heap.size, 2, none⟩ = some (.int .i64 0) ∧ ((X.alloc o).drew).cell? ⟨w.heap.size, 4, none⟩ = some (.slice da nd dc) ∧ ((X.alloc o).drew).cell? ⟨w.heap.size, 5, none⟩ = some (.slice sa ns sc) ∧ Mod (fun _ => False) w1 ((X.alloc o).drew))) := by
      rintro X o ⟨h2, h4, h5, h6⟩
      have hA := ((Mod.refl (fun _ => False) X).alloc o).drew
      exact ⟨hA.cellAt h2 (fun h => h), hA.cellAt h4 (fun h => h), hA.cellAt h5 (fun h => h), (h6.alloc o).drew⟩
    have hcd : Hid (∀ X : World, (X.cell? ⟨w.heap.size, 2, none⟩ = some (.int .i64 0) ∧ X.cell? ⟨w.heap.size, 4, none⟩ = some (.slice da nd dc) ∧ X.cell? ⟨w.heap.size, 5, none⟩ = some (.slice sa ns sc) ∧ Mod (fun _ => False) w1 X) → Calls Tryd.prog 25 #[.slice da nd dc] X fun e Y => ∃ a cp, e = .returned (.slice a (nd + 1) cp) ∧ Byts Y (.slice a (nd + 1) cp) (cidL h.dst) ∧ Mod (fun _ => False) X Y ∧ (Y.cell? ⟨w.heap.size, 2, none⟩ = some (.int .i64 0) ∧ Y.cell? ⟨w.heap.size, 4, none⟩ = some (.slice da nd dc) ∧ Y.cell? ⟨w.heap.size, 5, none⟩ = some (.slice sa ns sc) ∧ Mod (fun _ => False) w1 Y)) := by
      rintro X ⟨h2, h4, h5, h6⟩
      refine (cid_any (l := h.dst) (hdst.out.kept (hM1.trans h6) (fun _ _ h => h)) (by rw [← HD.out]; exact l3i)).mono ?_
      rintro e Y ⟨v, rfl, ho, hM⟩
      obtain ⟨a, cp, rfl, _⟩ := byts_val ho.byts
      have e : (cidL h.dst).length = nd + 1 := by rw [HD.out]; rfl
      have hb := ho.byts
      rw [e] at hb
      rw [e]
      exact ⟨a, cp, rfl, hb, hM, hM.cellAt h2 (fun h => h), hM.cellAt h4 (fun h => h), hM.cellAt h5 (fun h => h), h6.trans hM⟩
    have hcs : Hid (∀ X : World, (X.cell? ⟨w.heap.size, 2, none⟩ = some (.int .i64 0) ∧ X.cell? ⟨w.heap.size, 4, none⟩ = some (.slice da nd dc) ∧ X.cell? ⟨w.heap.size, 5, none⟩ = some (.slice sa ns sc) ∧ Mod (fun _ => False) w1 X) → Calls Tryd.prog 25 #[.slice sa ns sc] X fun e Y => ∃ a cp, e = .returned (.slice a (ns + 1) cp) ∧ Byts Y (.slice a (ns + 1) cp) (cidL h.src) ∧ Mod (fun _ => False) X Y ∧ (Y.cell? ⟨w.heap.size, 2, none⟩ = some (.int .i64 0) ∧ Y.cell? ⟨w.heap.size, 4, none⟩ = some (.slice da nd dc) ∧ Y.cell? ⟨w.heap.size, 5, none⟩ = some (.slice sa ns sc) ∧ Mod (fun _ => False) w1 Y)) := by
      rintro X ⟨h2, h4, h5, h6⟩
      refine (cid_any (l := h.src) (hsrc.out.kept (hM1.trans h6) (fun _ _ h => h)) (by rw [← HS.out]; exact l4i)).mono ?_
      rintro e Y ⟨v, rfl, ho, hM⟩
      obtain ⟨a, cp, rfl, _⟩ := byts_val ho.byts
      have e : (cidL h.src).length = ns + 1 := by rw [HS.out]; rfl
      have hb := ho.byts
      rw [e] at hb
      rw [e]
      exact ⟨a, cp, rfl, hb, hM, hM.cellAt h2 (fun h => h), hM.cellAt h4 (fun h => h), hM.cellAt h5 (fun h => h), h6.trans hM⟩
    have hlit : Hid (([.int .u8 (bits .or .u8 (bits .or .u8 (bits .or .i64 64 ((nc : Int) - 1) % 256) 128) (IntKind.u8.wrap (IntKind.i64.wrap 0))), .int .u8 (IntKind.u8.wrap ((ve : Int) / 16777216)), .int .u8 (IntKind.u8.wrap ((ve : Int) / 65536)), .int .u8 (IntKind.u8.wrap ((ve : Int) / 256)), .int .u8 (IntKind.u8.wrap (ve : Int))] : List Value) = ([UInt8.ofNat (192 + 16 * 0 + (nc - 1)), UInt8.ofNat (ve / 16777216), UInt8.ofNat (ve / 65536), UInt8.ofNat (ve / 256), UInt8.ofNat ve]).map bv) := by
      show _ = _
      rw [first_long0 nc l1 l2]
      simp only [List.map_cons, List.map_nil]
      have e1 : ((ve : Int) / 16777216) = ((ve / 16777216 : Nat) : Int) := by omega
      have e2 : ((ve : Int) / 65536) = ((ve / 65536 : Nat) : Int) := by omega
      have e3 : ((ve : Int) / 256) = ((ve / 256 : Nat) : Int) := by omega
      rw [e1, e2, e3, u8_wrap, u8_wrap, u8_wrap, u8_wrap]
    have hall : Hid (∀ (X : World) (g : Nat) (v0 : Value) (a1 a2 : Option Addr) (cp1 cp2 : Nat), g = X.heap.size → Sl X 1 v0 5 [.int .u8 (bits .or .u8 (bits .or .u8 (bits .or .i64 64 ((nc : Int) - 1) % 256) 128) (IntKind.u8.wrap (IntKind.i64.wrap 0))), .int .u8 (IntKind.u8.wrap ((ve : Int) / 16777216)), .int .u8 (IntKind.u8.wrap ((ve : Int) / 65536)), .int .u8 (IntKind.u8.wrap ((ve : Int) / 256)), .int .u8 (IntKind.u8.wrap (ve : Int))] → Byts X (.slice a1 (nd + 1) cp1) (cidL h.dst) → Byts X (.slice a2 (ns + 1) cp2) (cidL h.src) → (X.cell? ⟨w.heap.size, 2, none⟩ = some (.int .i64 0) ∧ X.cell? ⟨w.heap.size, 4, none⟩ = some (.slice da nd dc) ∧ X.cell? ⟨w.heap.size, 5, none⟩ = some (.slice sa ns sc) ∧ Mod (fun _ => False) w1 X) →
        Calls Tryd.prog 24 #[.slice (some ⟨g, 0, none⟩) 3 3] (X.alloc (.cells #[v0, .slice a1 (nd + 1) cp1, .slice a2 (ns + 1) cp2] 23)) fun e Y => ∃ a cp, e = .returned (.slice a (7 + nd + ns) cp) ∧ Byts Y (.slice a (7 + nd + ns) cp) ([UInt8.ofNat (192 + 16 * 0 + (nc - 1)), UInt8.ofNat (ve / 16777216), UInt8.ofNat (ve / 65536), UInt8.ofNat (ve / 256), UInt8.ofNat ve] ++ (cidL h.dst ++ cidL h.src)) ∧ (Y.cell? ⟨w.heap.size, 2, none⟩ = some (.int .i64 0) ∧ Y.cell? ⟨w.heap.size, 4, none⟩ = some (.slice da nd dc) ∧ Y.cell? ⟨w.heap.size, 5, none⟩ = some (.slice sa ns sc) ∧ Mod (fun _ => False) w1 Y)) := by
      rintro X g v0 a1 a2 cp1 cp2 rfl h0 h1 h2 ⟨m1, m2, m3, m4⟩
      rw [hlit.out] at h0
      have P := parts3 X _ _ _ [UInt8.ofNat (192 + 16 * 0 + (nc - 1)), UInt8.ofNat (ve / 16777216), UInt8.ofNat (ve / 65536), UInt8.ofNat (ve / 256), UInt8.ofNat ve] _ _ h0 h1 h2 23
      have e1 : (cidL h.dst).length = nd + 1 := by rw [HD.out]; rfl
      have e2 : (cidL h.src).length = ns + 1 := by rw [HS.out]; rfl
      refine (all_any (n := 3) rfl (by decide) (by decide) P (by simp [e1, e2]; omega) (by decide)).mono ?_
      rintro e Y ⟨v, rfl, ho, hM⟩
      have hMY := ((Mod.refl (fun _ => False) X).alloc _).trans hM
      have hb := ho.byts
      rw [show ([[UInt8.ofNat (192 + 16 * 0 + (nc - 1)), UInt8.ofNat (ve / 16777216), UInt8.ofNat (ve / 65536), UInt8.ofNat (ve / 256), UInt8.ofNat ve], cidL h.dst, cidL h.src] : List (List UInt8)).flatten = [UInt8.ofNat (192 + 16 * 0 + (nc - 1)), UInt8.ofNat (ve / 16777216), UInt8.ofNat (ve / 65536), UInt8.ofNat (ve / 256), UInt8.ofNat ve] ++ (cidL h.dst ++ cidL h.src) by simp] at hb
      obtain ⟨a, cp, rfl, _⟩ := byts_val hb
      have e3 : ([UInt8.ofNat (192 + 16 * 0 + (nc - 1)), UInt8.ofNat (ve / 16777216), UInt8.ofNat (ve / 65536), UInt8.ofNat (ve / 256), UInt8.ofNat ve] ++ (cidL h.dst ++ cidL h.src)).length = 7 + nd + ns := by simp [e1, e2]; omega
      rw [e3] at hb ⊢
      exact ⟨a, cp, rfl, hb, hMY.cellAt m1 (fun h => h), hMY.cellAt m2 (fun h => h), hMY.cellAt m3 (fun h => h), m4.trans hMY⟩
    go_upto_region 9 with fail
    go_cut [5] (fun s5 wx => ∃ a3 cp3, s5 = .slice a3 (7 + nd + ns) cp3 ∧ Byts wx (.slice a3 (7 + nd + ns) cp3) ([UInt8.ofNat (192 + 16 * 0 + (nc - 1)), UInt8.ofNat (ve / 16777216), UInt8.ofNat (ve / 65536), UInt8.ofNat (ve / 256), UInt8.ofNat ve] ++ (cidL h.dst ++ cidL h.src)) ∧ Mod (fun _ => False) w1 wx)
    case first =>
      go_region_held3 (fun X => X.cell? ⟨w.heap.size, 2, none⟩ = some (.int .i64 0) ∧ X.cell? ⟨w.heap.size, 4, none⟩ = some (.slice da nd dc) ∧ X.cell? ⟨w.heap.size, 5, none⟩ = some (.slice sa ns sc) ∧ Mod (fun _ => False) w1 X) (first | assumption | exact ⟨c2, c4, c5, Mod.refl _ _⟩ | exact ⟨c2, c4, c5, (Mod.refl _ _).drew⟩ | (with_reducible refine hsad.out _ _ ?_; assumption) | (with_reducible refine hsa.out _ _ ?_; assumption) | (refine ⟨?_, ?_, ?_, ?_⟩ <;> first | assumption | (refine cell_ad _ _ _ _ ?_; assumption) | (refine cell_a _ _ _ _ ?_; assumption) | (refine mod_ad _ _ _ ?_; assumption) | (refine mod_a _ _ _ ?_; assumption) | (refine Mod.drew ?_; assumption)) | assumption | (refine cell_ad _ _ _ _ ?_; assumption) | (refine cell_a _ _ _ _ ?_; assumption) | (refine mod_ad _ _ _ ?_; assumption) | (refine mod_a _ _ _ ?_; assumption) | (refine Mod.drew ?_; assumption))
        (first
          | (go_at_call 25; (with_reducible refine (hcd.out _ ?_).mono ?_); (first | assumption | exact ⟨c2, c4, c5, Mod.refl _ _⟩ | exact ⟨c2, c4, c5, (Mod.refl _ _).drew⟩ | (refine ⟨?_, ?_, ?_, ?_⟩ <;> assumption)); rintro e Y ⟨a1, cp1, rfl, hb1, hMa, hY1, hY2, hY3, hY4⟩)
          | (go_at_call 25; (with_reducible refine (hcs.out _ ?_).mono ?_); (first | assumption | exact ⟨c2, c4, c5, Mod.refl _ _⟩ | exact ⟨c2, c4, c5, (Mod.refl _ _).drew⟩ | (refine ⟨?_, ?_, ?_, ?_⟩ <;> assumption)); rintro e Y ⟨a2, cp2, rfl, hb2, hMb, hZ1, hZ2, hZ3, hZ4⟩)
          | (go_at_call 24; (with_reducible refine (hall.out _ _ _ _ _ _ _ ?_ ?_ ?_ ?_ ?_).mono ?_)
             · first | rfl | (simp; done)
             · first | exact sl_lit _ _ 5 rfl (by decide) _ | exact (sl_lit _ _ 5 rfl (by decide) _).kept hMb (fun _ _ h => h) | exact ((Sl.heap (w' := World.drew _) (sl_lit w1 [.int .u8 (bits .or .u8 (bits .or .u8 (bits .or .i64 64 ((nc : Int) - 1) % 256) 128) (IntKind.u8.wrap (IntKind.i64.wrap 0))), .int .u8 (IntKind.u8.wrap ((ve : Int) / 16777216)), .int .u8 (IntKind.u8.wrap ((ve : Int) / 65536)), .int .u8 (IntKind.u8.wrap ((ve : Int) / 256)), .int .u8 (IntKind.u8.wrap (ve : Int))] 5 rfl (by decide) 5) rfl).kept hMa (fun _ _ h => h)).kept hMb (fun _ _ h => h)
             · first | exact hb1.kept hMb (fun _ _ h => h) | exact (hb1.kept ((Mod.refl (fun _ => False) _).alloc _) (fun _ _ h => h)).kept hMb (fun _ _ h => h) | exact (hb1.kept hMb (fun _ _ h => h)).kept ((Mod.refl (fun _ => False) _).alloc _) (fun _ _ h => h)
             · first | exact hb2 | exact hb2.kept ((Mod.refl (fun _ => False) _).alloc _) (fun _ _ h => h)
             · first | exact ⟨hZ1, hZ2, hZ3, hZ4⟩ | exact hsa.out _ _ ⟨hZ1, hZ2, hZ3, hZ4⟩ | assumption
             rintro e Y3 ⟨a3, cp3, rfl, hb3, hX1, hX2, hX3, hX4⟩))
      all_goals (go_wp2_with fail; go_meet; exact ⟨a3, cp3, rfl, hb3, hX4⟩)
    case rest =>
      obtain ⟨a3, cp3, rfl, hb3, hX4⟩ := hcut
      have HB3 := hX4.blk HHB.out (fun h => h)
      obtain ⟨d0, d1, d2, d3, d4, d5, d6, d7, d8, hlt3⟩ := hd_cells HB3
      have hw0 : IntKind.u64.wrap (nt : Int) = nt := IntWalk.u64_in _ (by omega)
      have hTc := Lib.hid (hM1.trans hX4)
      have hM30 : Mod (fun _ => False) wc wc := Mod.refl _ _
      have HB3' := Lib.hid hb3
      have e1 : Hid ((([UInt8.ofNat (192 + 16 * 0 + (nc - 1)), UInt8.ofNat (ve / 16777216), UInt8.ofNat (ve / 65536), UInt8.ofNat (ve / 256), UInt8.ofNat ve] ++ (cidL h.dst ++ cidL h.src)) : List UInt8).length = 7 + nd + ns) := by
        have e1 : (cidL h.dst).length = nd + 1 := by rw [HD.out]; rfl
        have e2 : (cidL h.src).length = ns + 1 := by rw [HS.out]; rfl
        show _ = _; simp [e1, e2]; omega
      have hbt : Hid (∀ X : World, Mod (fun _ => False) wc X → Byts X (.slice ta nt tc) h.tok) := by
        intro X hX
        have := htok.out.kept (hTc.out.trans hX) (fun _ _ h => h)
        rw [HTK.out] at this ⊢
        exact this
      have hpt : Hid (∀ X : World, (X.cell? ⟨w.heap.size, 6, none⟩ = some (.slice ta nt tc) ∧ Mod (fun _ => False) wc X) → Calls Tryd.prog 26 #[.int .u64 (nt : Int)] X fun e Y => ∃ a cp, e = .returned (.slice a (szN nt) cp) ∧ Byts Y (.slice a (szN nt) cp) (putL nt) ∧ Mod (fun _ => False) X Y ∧ Y.cell? ⟨w.heap.size, 6, none⟩ = some (.slice ta nt tc) ∧ Mod (fun _ => False) wc Y) := by
        rintro X ⟨m1, m2⟩
        refine (put_any nt X ((hTc.out.trans m2).tabs HT.out (fun h => h))).mono ?_
        rintro e Y ⟨v, rfl, ho, hM⟩
        have hb := ho.byts
        obtain ⟨a, cp, rfl, _⟩ := byts_val hb
        rw [putL_length] at hb ⊢
        exact ⟨a, cp, rfl, hb, hM, hM.cellAt m1 (fun h => h), m2.trans hM⟩
      go_upto_region 11 with fail
      go_cut [5] (fun s5 wx => ∃ a5 cp5, s5 = .slice a5 (7 + nd + ns + (szN nt + nt)) cp5 ∧ Byts wx (.slice a5 (7 + nd + ns + (szN nt + nt)) cp5) (([UInt8.ofNat (192 + 16 * 0 + (nc - 1)), UInt8.ofNat (ve / 16777216), UInt8.ofNat (ve / 65536), UInt8.ofNat (ve / 256), UInt8.ofNat ve] ++ (cidL h.dst ++ cidL h.src)) ++ (putL nt ++ h.tok)) ∧ Mod (fun _ => False) wc wx)
      case first =>
        go_region_held3 (fun X => X.cell? ⟨w.heap.size, 6, none⟩ = some (.slice ta nt tc) ∧ Mod (fun _ => False) wc X) (first | exact ⟨d6, hM30⟩ | exact ⟨d6, hM30.drew⟩ | assumption | (refine ⟨?_, ?_⟩ <;> first | assumption | (refine cell_ad _ _ _ _ ?_; assumption) | (refine cell_a _ _ _ _ ?_; assumption) | (refine mod_ad _ _ _ ?_; assumption) | (refine mod_a _ _ _ ?_; assumption) | (refine Mod.drew ?_; assumption)) | (refine cell_ad _ _ _ _ ?_; assumption) | (refine cell_a _ _ _ _ ?_; assumption) | (refine mod_ad _ _ _ ?_; assumption) | (refine mod_a _ _ _ ?_; assumption) | (refine Mod.drew ?_; assumption))
          (first
            | (go_at_call 26; (first | rw [hw0] | skip); (with_reducible refine (hpt.out _ ?_).mono ?_); (first | exact ⟨d6, hM30⟩ | exact ⟨d6, hM30.drew⟩ | assumption); rintro e Y4 ⟨a4, cp4, rfl, hb4, hM4, hV1, hV2⟩)
            | (go_at_call 24; (with_reducible refine (all3_any (n := 7 + nd + ns + (szN nt + nt)) (l1 := [UInt8.ofNat (192 + 16 * 0 + (nc - 1)), UInt8.ofNat (ve / 16777216), UInt8.ofNat (ve / 65536), UInt8.ofNat (ve / 256), UInt8.ofNat ve] ++ (cidL h.dst ++ cidL h.src)) (l2 := putL nt) (l3 := h.tok) ?_ ?_ ?_ ?_ ?_ ?_).mono ?_)
               · rfl
               · exact HB3'.out.kept hV2 (fun _ _ h => h)
               · exact hb4
               · exact hbt.out _ hV2
               · rw [e1.out, putL_length, ← HTK.out]
               · have := szN_le nt; omega
               (rintro e Y5 ⟨a5, cp5, rfl, _, hb5, hM5⟩; have hW1 := hM5.cellAt hV1 (fun h => h); have hW2 := hV2.trans hM5)))
        all_goals (go_wp2_with fail; go_meet; exact ⟨a5, cp5, rfl, hb5, hW2⟩)
      case rest =>
        obtain ⟨a5, cp5, rfl, hb5, hX5⟩ := hcut
        have HB5 := hX5.blk HB3 (fun h => h)
        obtain ⟨f0, f1, f2, f3, f4, f5, f6, f7, f8, hlt5⟩ := hd_cells HB5
        have hM5w := Lib.hid ((hM1.trans hX4).trans hX5)
        have HB5' := Lib.hid hb5
        have hw1 : IntKind.i64.wrap ((nc : Int) + re) = (nc : Int) + re := IntWalk.i64_in _ (by omega)
        have hw2 : IntKind.u64.wrap ((nc : Int) + re) = (nc : Int) + re := IntWalk.u64_in _ (by omega)
        have hM50 : Mod (fun _ => False) wc wc := Mod.refl _ _
        have hbc : Hid (∀ X : World, Mod (fun _ => False) wc X → Byts X (.slice ca nc cc) h.cut) := fun X hX => HCUT.out.kept (hM5w.out.trans hX) (fun _ _ h => h)
        have hpc : Hid (∀ X : World, (X.cell? ⟨w.heap.size, 7, none⟩ = some (.slice ca nc cc) ∧ X.cell? ⟨w.heap.size, 8, none⟩ = some (.int .i64 (re : Int)) ∧ Mod (fun _ => False) wc X) → Calls Tryd.prog 26 #[.int .u64 ((nc : Int) + re)] X fun e Y => ∃ a cp, e = .returned (.slice a (szN (nc + re)) cp) ∧ Byts Y (.slice a (szN (nc + re)) cp) (putL (nc + re)) ∧ Mod (fun _ => False) X Y ∧ Y.cell? ⟨w.heap.size, 7, none⟩ = some (.slice ca nc cc) ∧ Y.cell? ⟨w.heap.size, 8, none⟩ = some (.int .i64 (re : Int)) ∧ Mod (fun _ => False) wc Y) := by
          rintro X ⟨m1, m2, m3⟩
          have hp := put_any (nc + re) X ((hM5w.out.trans m3).tabs HT.out (fun h => h))
          rw [show (((nc + re : Nat)) : Int) = (nc : Int) + re by omega] at hp
          refine hp.mono ?_
          rintro e Y ⟨v, rfl, ho, hM⟩
          have hb := ho.byts
          obtain ⟨a, cp, rfl, _⟩ := byts_val hb
          rw [putL_length] at hb ⊢
          exact ⟨a, cp, rfl, hb, hM, hM.cellAt m1 (fun h => h), hM.cellAt m2 (fun h => h), m3.trans hM⟩
        have eC : Hid ((([UInt8.ofNat (192 + 16 * 0 + (nc - 1)), UInt8.ofNat (ve / 16777216), UInt8.ofNat (ve / 65536), UInt8.ofNat (ve / 256), UInt8.ofNat ve] ++ (cidL h.dst ++ cidL h.src)) ++ (putL nt ++ h.tok)).length = (7 + nd + ns + (szN nt + nt))) := by show _ = _; rw [List.length_append, e1.out, List.length_append, putL_length, ← HTK.out]
        go_wp2_with fail
        go_region_held3 (fun X => X.cell? ⟨w.heap.size, 7, none⟩ = some (.slice ca nc cc) ∧ X.cell? ⟨w.heap.size, 8, none⟩ = some (.int .i64 (re : Int)) ∧ Mod (fun _ => False) wc X) (first | exact ⟨f7, f8, hM50⟩ | exact ⟨f7, f8, hM50.drew⟩ | assumption | (refine ⟨?_, ?_, ?_⟩ <;> first | assumption | (refine cell_ad _ _ _ _ ?_; assumption) | (refine cell_a _ _ _ _ ?_; assumption) | (refine mod_ad _ _ _ ?_; assumption) | (refine mod_a _ _ _ ?_; assumption) | (refine Mod.drew ?_; assumption)) | (refine cell_ad _ _ _ _ ?_; assumption) | (refine cell_a _ _ _ _ ?_; assumption) | (refine mod_ad _ _ _ ?_; assumption) | (refine mod_a _ _ _ ?_; assumption) | (refine Mod.drew ?_; assumption))
          (first
            | (go_at_call 26; (first | rw [hw1, hw2] | rw [hw1] | rw [hw2] | skip); (with_reducible refine (hpc.out _ ?_).mono ?_); (first | exact ⟨f7, f8, hM50⟩ | exact ⟨f7, f8, hM50.drew⟩ | assumption); rintro e Y6 ⟨a6, cp6, rfl, hb6, hM6, hV1, hV2, hV3⟩)
            | (go_at_call 24; (with_reducible refine (all3_any (n := (7 + nd + ns + (szN nt + nt)) + (szN (nc + re) + nc)) (l1 := (([UInt8.ofNat (192 + 16 * 0 + (nc - 1)), UInt8.ofNat (ve / 16777216), UInt8.ofNat (ve / 65536), UInt8.ofNat (ve / 256), UInt8.ofNat ve] ++ (cidL h.dst ++ cidL h.src)) ++ (putL nt ++ h.tok))) (l2 := putL (nc + re)) (l3 := h.cut) ?_ ?_ ?_ ?_ ?_ ?_).mono ?_)
               · rfl
               · exact HB5'.out.kept hV3 (fun _ _ h => h)
               · exact hb6
               · exact hbc.out _ hV3
               · rw [eC.out, putL_length, ← HC.out]
               · have := szN_le (nc + re); have := szN_le nt; omega
               (rintro e Y7 ⟨a7, cp7, rfl, ho7, _, hM7⟩; have hZ1 := hM7.cellAt hV1 (fun h => h); have hZ2 := hM7.cellAt hV2 (fun h => h); have hZ3 := hV3.trans hM7)))
        all_goals
          go_wp2_with fail
          go_ret
          refine ⟨_, rfl, ?_, hM5w.out.trans hZ3⟩
          rw [HRE.out, hput_eq0 HRR.out HL.out HK0.out HC.out HTK.out HVE.out HRS.out]; exact ho7.mono (by have := (hM5w.out.trans hV3).size; simp; omega)
  · have HK0 := Lib.hid e
    rw [e] at HR ⊢
    clear e
    go_enter Tryd.func15, Tryd.ntmps15
    go_wp2_with fail
    refine HR.out.mono ?_
    rintro e w1 ⟨rfl, hM⟩
    have hM1 := ((Mod.refl (fun _ => False) w).alloc _).trans hM
    have HB : Blk w1 w.heap.size #[.bool true, .bool false, .int .i64 2, .int .u32 (ve : Int), .slice da nd dc, .slice sa ns sc, .slice ta nt tc, .slice ca nc cc, .int .i64 (re : Int)] 25 := hM.blk (Blk.new _ _ _) (fun h => h)
    obtain ⟨c0, c1, c2, c3, c4, c5, c6, c7, c8, hlt⟩ := hd_cells HB
    have HHB := Lib.hid HB
    clear HR HB hM
    have hM0 : Mod (fun _ => False) w1 w1 := Mod.refl _ _
    have hsa : Hid (∀ (X : World) (o : Obj), (X.cell? ⟨w.heap.size, 2, none⟩ = some (.int .i64 2) ∧ X.cell? ⟨w.heap.size, 4, none⟩ = some (.slice da nd dc) ∧ X.cell? ⟨w.heap.size, 5, none⟩ = some (.slice sa ns sc) ∧ Mod (fun _ => False) w1 X) → ((X.alloc o).cell? ⟨w.heap.size, 2, none⟩ = some (.int .i64 2) ∧ (X.alloc o).cell? ⟨w.heap.size, 4, none⟩ = some (.slice da nd dc) ∧ (X.alloc o).cell? ⟨w.heap.size, 5, none⟩ = some (.slice sa ns sc) ∧ Mod (fun _ => False) w1 (X.alloc o))) := by
      rintro X o ⟨h2, h4, h5, h6⟩
      have hA := (Mod.refl (fun _ => False) X).alloc o
      exact ⟨hA.cellAt h2 (fun h => h), hA.cellAt h4 (fun h => h), hA.cellAt h5 (fun h => h), h6.alloc o⟩
    have hsad : Hid (∀ (X : World) (o : Obj), (X.cell? ⟨w.heap.size, 2, none⟩ = some (.int .i64 2) ∧ X.cell? ⟨w.heap.size, 4, none⟩ = some (.slice da nd dc) ∧ X.cell? ⟨w.heap.size, 5, none⟩ = some (.slice sa ns sc) ∧ Mod (fun _ => False) w1 X) → (((X.alloc o).drew).cell? ⟨w.heap.size, 2, none⟩ = some (.int .i64 2) ∧ ((X.alloc o).drew).cell? ⟨w.heap.size, 4, none⟩ = some (.slice da nd dc) ∧ ((X.alloc o).drew).cell? ⟨w.heap.size, 5, none⟩ = some (.slice sa ns sc) ∧ Mod (fun _ => False) w1 ((X.alloc o).drew))) := by
      rintro X o ⟨h2, h4, h5, h6⟩
      have hA := ((Mod.refl (fun _ => False) X).alloc o).drew
      exact ⟨hA.cellAt h2 (fun h => h), hA.cellAt h4 (fun h => h), hA.cellAt h5 (fun h => h), (h6.alloc o).drew⟩
    have hcd : Hid (∀ X : World, (X.cell? ⟨w.heap.size, 2, none⟩ = some (.int .i64 2) ∧ X.cell? ⟨w.heap.size, 4, none⟩ = some (.slice da nd dc) ∧ X.cell? ⟨w.heap.size, 5, none⟩ = some (.slice sa ns sc) ∧ Mod (fun _ => False) w1 X) → Calls Tryd.prog 25 #[.slice da nd dc] X fun e Y => ∃ a cp, e = .returned (.slice a (nd + 1) cp) ∧ Byts Y (.slice a (nd + 1) cp) (cidL h.dst) ∧ Mod (fun _ => False) X Y ∧ (Y.cell? ⟨w.heap.size, 2, none⟩ = some (.int .i64 2) ∧ Y.cell? ⟨w.heap.size, 4, none⟩ = some (.slice da nd dc) ∧ Y.cell? ⟨w.heap.size, 5, none⟩ = some (.slice sa ns sc) ∧ Mod (fun _ => False) w1 Y)) := by
      rintro X ⟨h2, h4, h5, h6⟩
      refine (cid_any (l := h.dst) (hdst.out.kept (hM1.trans h6) (fun _ _ h => h)) (by rw [← HD.out]; exact l3i)).mono ?_
      rintro e Y ⟨v, rfl, ho, hM⟩
      obtain ⟨a, cp, rfl, _⟩ := byts_val ho.byts
      have e : (cidL h.dst).length = nd + 1 := by rw [HD.out]; rfl
      have hb := ho.byts
      rw [e] at hb
      rw [e]
      exact ⟨a, cp, rfl, hb, hM, hM.cellAt h2 (fun h => h), hM.cellAt h4 (fun h => h), hM.cellAt h5 (fun h => h), h6.trans hM⟩
    have hcs : Hid (∀ X : World, (X.cell? ⟨w.heap.size, 2, none⟩ = some (.int .i64 2) ∧ X.cell? ⟨w.heap.size, 4, none⟩ = some (.slice da nd dc) ∧ X.cell? ⟨w.heap.size, 5, none⟩ = some (.slice sa ns sc) ∧ Mod (fun _ => False) w1 X) → Calls Tryd.prog 25 #[.slice sa ns sc] X fun e Y => ∃ a cp, e = .returned (.slice a (ns + 1) cp) ∧ Byts Y (.slice a (ns + 1) cp) (cidL h.src) ∧ Mod (fun _ => False) X Y ∧ (Y.cell? ⟨w.heap.size, 2, none⟩ = some (.int .i64 2) ∧ Y.cell? ⟨w.heap.size, 4, none⟩ = some (.slice da nd dc) ∧ Y.cell? ⟨w.heap.size, 5, none⟩ = some (.slice sa ns sc) ∧ Mod (fun _ => False) w1 Y)) := by
      rintro X ⟨h2, h4, h5, h6⟩
      refine (cid_any (l := h.src) (hsrc.out.kept (hM1.trans h6) (fun _ _ h => h)) (by rw [← HS.out]; exact l4i)).mono ?_
      rintro e Y ⟨v, rfl, ho, hM⟩
      obtain ⟨a, cp, rfl, _⟩ := byts_val ho.byts
      have e : (cidL h.src).length = ns + 1 := by rw [HS.out]; rfl
      have hb := ho.byts
      rw [e] at hb
      rw [e]
      exact ⟨a, cp, rfl, hb, hM, hM.cellAt h2 (fun h => h), hM.cellAt h4 (fun h => h), hM.cellAt h5 (fun h => h), h6.trans hM⟩
    have hlit : Hid (([.int .u8 (bits .or .u8 (bits .or .u8 (bits .or .i64 64 ((nc : Int) - 1) % 256) 128) (IntKind.u8.wrap (IntKind.i64.wrap 32))), .int .u8 (IntKind.u8.wrap ((ve : Int) / 16777216)), .int .u8 (IntKind.u8.wrap ((ve : Int) / 65536)), .int .u8 (IntKind.u8.wrap ((ve : Int) / 256)), .int .u8 (IntKind.u8.wrap (ve : Int))] : List Value) = ([UInt8.ofNat (192 + 16 * 2 + (nc - 1)), UInt8.ofNat (ve / 16777216), UInt8.ofNat (ve / 65536), UInt8.ofNat (ve / 256), UInt8.ofNat ve]).map bv) := by
      show _ = _
      rw [first_long2 nc l1 l2]
      simp only [List.map_cons, List.map_nil]
      have e1 : ((ve : Int) / 16777216) = ((ve / 16777216 : Nat) : Int) := by omega
      have e2 : ((ve : Int) / 65536) = ((ve / 65536 : Nat) : Int) := by omega
      have e3 : ((ve : Int) / 256) = ((ve / 256 : Nat) : Int) := by omega
      rw [e1, e2, e3, u8_wrap, u8_wrap, u8_wrap, u8_wrap]
    have hall : Hid (∀ (X : World) (g : Nat) (v0 : Value) (a1 a2 : Option Addr) (cp1 cp2 : Nat), g = X.heap.size → Sl X 1 v0 5 [.int .u8 (bits .or .u8 (bits .or .u8 (bits .or .i64 64 ((nc : Int) - 1) % 256) 128) (IntKind.u8.wrap (IntKind.i64.wrap 32))), .int .u8 (IntKind.u8.wrap ((ve : Int) / 16777216)), .int .u8 (IntKind.u8.wrap ((ve : Int) / 65536)), .int .u8 (IntKind.u8.wrap ((ve : Int) / 256)), .int .u8 (IntKind.u8.wrap (ve : Int))] → Byts X (.slice a1 (nd + 1) cp1) (cidL h.dst) → Byts X (.slice a2 (ns + 1) cp2) (cidL h.src) → (X.cell? ⟨w.heap.size, 2, none⟩ = some (.int .i64 2) ∧ X.cell? ⟨w.heap.size, 4, none⟩ = some (.slice da nd dc) ∧ X.cell? ⟨w.heap.size, 5, none⟩ = some (.slice sa ns sc) ∧ Mod (fun _ => False) w1 X) →
        Calls Tryd.prog 24 #[.slice (some ⟨g, 0, none⟩) 3 3] (X.alloc (.cells #[v0, .slice a1 (nd + 1) cp1, .slice a2 (ns + 1) cp2] 23)) fun e Y => ∃ a cp, e = .returned (.slice a (7 + nd + ns) cp) ∧ Byts Y (.slice a (7 + nd + ns) cp) ([UInt8.ofNat (192 + 16 * 2 + (nc - 1)), UInt8.ofNat (ve / 16777216), UInt8.ofNat (ve / 65536), UInt8.ofNat (ve / 256), UInt8.ofNat ve] ++ (cidL h.dst ++ cidL h.src)) ∧ (Y.cell? ⟨w.heap.size, 2, none⟩ = some (.int .i64 2) ∧ Y.cell? ⟨w.heap.size, 4, none⟩ = some (.slice da nd dc) ∧ Y.cell? ⟨w.heap.size, 5, none⟩ = some (.slice sa ns sc) ∧ Mod (fun _ => False) w1 Y)) := by
      rintro X g v0 a1 a2 cp1 cp2 rfl h0 h1 h2 ⟨m1, m2, m3, m4⟩
      rw [hlit.out] at h0
      have P := parts3 X _ _ _ [UInt8.ofNat (192 + 16 * 2 + (nc - 1)), UInt8.ofNat (ve / 16777216), UInt8.ofNat (ve / 65536), UInt8.ofNat (ve / 256), UInt8.ofNat ve] _ _ h0 h1 h2 23
      have e1 : (cidL h.dst).length = nd + 1 := by rw [HD.out]; rfl
      have e2 : (cidL h.src).length = ns + 1 := by rw [HS.out]; rfl
      refine (all_any (n := 3) rfl (by decide) (by decide) P (by simp [e1, e2]; omega) (by decide)).mono ?_
      rintro e Y ⟨v, rfl, ho, hM⟩
      have hMY := ((Mod.refl (fun _ => False) X).alloc _).trans hM
      have hb := ho.byts
      rw [show ([[UInt8.ofNat (192 + 16 * 2 + (nc - 1)), UInt8.ofNat (ve / 16777216), UInt8.ofNat (ve / 65536), UInt8.ofNat (ve / 256), UInt8.ofNat ve], cidL h.dst, cidL h.src] : List (List UInt8)).flatten = [UInt8.ofNat (192 + 16 * 2 + (nc - 1)), UInt8.ofNat (ve / 16777216), UInt8.ofNat (ve / 65536), UInt8.ofNat (ve / 256), UInt8.ofNat ve] ++ (cidL h.dst ++ cidL h.src) by simp] at hb
      obtain ⟨a, cp, rfl, _⟩ := byts_val hb
      have e3 : ([UInt8.ofNat (192 + 16 * 2 + (nc - 1)), UInt8.ofNat (ve / 16777216), UInt8.ofNat (ve / 65536), UInt8.ofNat (ve / 256), UInt8.ofNat ve] ++ (cidL h.dst ++ cidL h.src)).length = 7 + nd + ns := by simp [e1, e2]; omega
      rw [e3] at hb ⊢
      exact ⟨a, cp, rfl, hb, hMY.cellAt m1 (fun h => h), hMY.cellAt m2 (fun h => h), hMY.cellAt m3 (fun h => h), m4.trans hMY⟩
    go_upto_region 9 with fail
    go_cut [5] (fun s5 wx => ∃ a3 cp3, s5 = .slice a3 (7 + nd + ns) cp3 ∧ Byts wx (.slice a3 (7 + nd + ns) cp3) ([UInt8.ofNat (192 + 16 * 2 + (nc - 1)), UInt8.ofNat (ve / 16777216), UInt8.ofNat (ve / 65536), UInt8.ofNat (ve / 256), UInt8.ofNat ve] ++ (cidL h.dst ++ cidL h.src)) ∧ Mod (fun _ => False) w1 wx)
    case first =>
      go_region_held3 (fun X => X.cell? ⟨w.heap.size, 2, none⟩ = some (.int .i64 2) ∧ X.cell? ⟨w.heap.size, 4, none⟩ = some (.slice da nd dc) ∧ X.cell? ⟨w.heap.size, 5, none⟩ = some (.slice sa ns sc) ∧ Mod (fun _ => False) w1 X) (first | assumption | exact ⟨c2, c4, c5, Mod.refl _ _⟩ | exact ⟨c2, c4, c5, (Mod.refl _ _).drew⟩ | (with_reducible refine hsad.out _ _ ?_; assumption) | (with_reducible refine hsa.out _ _ ?_; assumption) | (refine ⟨?_, ?_, ?_, ?_⟩ <;> first | assumption | (refine cell_ad _ _ _ _ ?_; assumption) | (refine cell_a _ _ _ _ ?_; assumption) | (refine mod_ad _ _ _ ?_; assumption) | (refine mod_a _ _ _ ?_; assumption) | (refine Mod.drew ?_; assumption)) | assumption | (refine cell_ad _ _ _ _ ?_; assumption) | (refine cell_a _ _ _ _ ?_; assumption) | (refine mod_ad _ _ _ ?_; assumption) | (refine mod_a _ _ _ ?_; assumption) | (refine Mod.drew ?_; assumption))
        (first
          | (go_at_call 25; (with_reducible refine (hcd.out _ ?_).mono ?_); (first | assumption | exact ⟨c2, c4, c5, Mod.refl _ _⟩ | exact ⟨c2, c4, c5, (Mod.refl _ _).drew⟩ | (refine ⟨?_, ?_, ?_, ?_⟩ <;> assumption)); rintro e Y ⟨a1, cp1, rfl, hb1, hMa, hY1, hY2, hY3, hY4⟩)
          | (go_at_call 25; (with_reducible refine (hcs.out _ ?_).mono ?_); (first | assumption | exact ⟨c2, c4, c5, Mod.refl _ _⟩ | exact ⟨c2, c4, c5, (Mod.refl _ _).drew⟩ | (refine ⟨?_, ?_, ?_, ?_⟩ <;> assumption)); rintro e Y ⟨a2, cp2, rfl, hb2, hMb, hZ1, hZ2, hZ3, hZ4⟩)
          | (go_at_call 24; (with_reducible refine (hall.out _ _ _ _ _ _ _ ?_ ?_ ?_ ?_ ?_).mono ?_)
             · first | rfl | (simp; done)
             · first | exact sl_lit _ _ 5 rfl (by decide) _ | exact (sl_lit _ _ 5 rfl (by decide) _).kept hMb (fun _ _ h => h) | exact ((Sl.heap (w' := World.drew _) (sl_lit w1 [.int .u8 (bits .or .u8 (bits .or .u8 (bits .or .i64 64 ((nc : Int) - 1) % 256) 128) (IntKind.u8.wrap (IntKind.i64.wrap 32))), .int .u8 (IntKind.u8.wrap ((ve : Int) / 16777216)), .int .u8 (IntKind.u8.wrap ((ve : Int) / 65536)), .int .u8 (IntKind.u8.wrap ((ve : Int) / 256)), .int .u8 (IntKind.u8.wrap (ve : Int))] 5 rfl (by decide) 5) rfl).kept hMa (fun _ _ h => h)).kept hMb (fun _ _ h => h)
             · first | exact hb1.kept hMb (fun _ _ h => h) | exact (hb1.kept ((Mod.refl (fun _ => False) _).alloc _) (fun _ _ h => h)).kept hMb (fun _ _ h => h) | exact (hb1.kept hMb (fun _ _ h => h)).kept ((Mod.refl (fun _ => False) _).alloc _) (fun _ _ h => h)
             · first | exact hb2 | exact hb2.kept ((Mod.refl (fun _ => False) _).alloc _) (fun _ _ h => h)
             · first | exact ⟨hZ1, hZ2, hZ3, hZ4⟩ | exact hsa.out _ _ ⟨hZ1, hZ2, hZ3, hZ4⟩ | assumption
             rintro e Y3 ⟨a3, cp3, rfl, hb3, hX1, hX2, hX3, hX4⟩))
      all_goals (go_wp2_with fail; go_meet; exact ⟨a3, cp3, rfl, hb3, hX4⟩)
    case rest =>
      obtain ⟨a3, cp3, rfl, hb3, hX4⟩ := hcut
      have HB3 := hX4.blk HHB.out (fun h => h)
      have e1 : Hid ((([UInt8.ofNat (192 + 16 * 2 + (nc - 1)), UInt8.ofNat (ve / 16777216), UInt8.ofNat (ve / 65536), UInt8.ofNat (ve / 256), UInt8.ofNat ve] ++ (cidL h.dst ++ cidL h.src)) : List UInt8).length = 7 + nd + ns) := by
        have e1 : (cidL h.dst).length = nd + 1 := by rw [HD.out]; rfl
        have e2 : (cidL h.src).length = ns + 1 := by rw [HS.out]; rfl
        show _ = _; simp [e1, e2]; omega
      have HB5 := HB3
      have hb5 := hb3
      obtain ⟨f0, f1, f2, f3, f4, f5, f6, f7, f8, hlt5⟩ := hd_cells HB5
      have hM5w := Lib.hid (hM1.trans hX4)
      have HB5' := Lib.hid hb5
      have hw1 : IntKind.i64.wrap ((nc : Int) + re) = (nc : Int) + re := IntWalk.i64_in _ (by omega)
      have hw2 : IntKind.u64.wrap ((nc : Int) + re) = (nc : Int) + re := IntWalk.u64_in _ (by omega)
      have hM50 : Mod (fun _ => False) wc wc := Mod.refl _ _
      have hbc : Hid (∀ X : World, Mod (fun _ => False) wc X → Byts X (.slice ca nc cc) h.cut) := fun X hX => HCUT.out.kept (hM5w.out.trans hX) (fun _ _ h => h)
      have hpc : Hid (∀ X : World, (X.cell? ⟨w.heap.size, 7, none⟩ = some (.slice ca nc cc) ∧ X.cell? ⟨w.heap.size, 8, none⟩ = some (.int .i64 (re : Int)) ∧ Mod (fun _ => False) wc X) → Calls Tryd.prog 26 #[.int .u64 ((nc : Int) + re)] X fun e Y => ∃ a cp, e = .returned (.slice a (szN (nc + re)) cp) ∧ Byts Y (.slice a (szN (nc + re)) cp) (putL (nc + re)) ∧ Mod (fun _ => False) X Y ∧ Y.cell? ⟨w.heap.size, 7, none⟩ = some (.slice ca nc cc) ∧ Y.cell? ⟨w.heap.size, 8, none⟩ = some (.int .i64 (re : Int)) ∧ Mod (fun _ => False) wc Y) := by
        rintro X ⟨m1, m2, m3⟩
        have hp := put_any (nc + re) X ((hM5w.out.trans m3).tabs HT.out (fun h => h))
        rw [show (((nc + re : Nat)) : Int) = (nc : Int) + re by omega] at hp
        refine hp.mono ?_
        rintro e Y ⟨v, rfl, ho, hM⟩
        have hb := ho.byts
        obtain ⟨a, cp, rfl, _⟩ := byts_val hb
        rw [putL_length] at hb ⊢
        exact ⟨a, cp, rfl, hb, hM, hM.cellAt m1 (fun h => h), hM.cellAt m2 (fun h => h), m3.trans hM⟩
      have eC : Hid (([UInt8.ofNat (192 + 16 * 2 + (nc - 1)), UInt8.ofNat (ve / 16777216), UInt8.ofNat (ve / 65536), UInt8.ofNat (ve / 256), UInt8.ofNat ve] ++ (cidL h.dst ++ cidL h.src)).length = (7 + nd + ns)) := e1
      go_wp2_with fail
      go_region_held3 (fun X => X.cell? ⟨w.heap.size, 7, none⟩ = some (.slice ca nc cc) ∧ X.cell? ⟨w.heap.size, 8, none⟩ = some (.int .i64 (re : Int)) ∧ Mod (fun _ => False) wc X) (first | exact ⟨f7, f8, hM50⟩ | exact ⟨f7, f8, hM50.drew⟩ | assumption | (refine ⟨?_, ?_, ?_⟩ <;> first | assumption | (refine cell_ad _ _ _ _ ?_; assumption) | (refine cell_a _ _ _ _ ?_; assumption) | (refine mod_ad _ _ _ ?_; assumption) | (refine mod_a _ _ _ ?_; assumption) | (refine Mod.drew ?_; assumption)) | (refine cell_ad _ _ _ _ ?_; assumption) | (refine cell_a _ _ _ _ ?_; assumption) | (refine mod_ad _ _ _ ?_; assumption) | (refine mod_a _ _ _ ?_; assumption) | (refine Mod.drew ?_; assumption))
        (first
          | (go_at_call 26; (first | rw [hw1, hw2] | rw [hw1] | rw [hw2] | skip); (with_reducible refine (hpc.out _ ?_).mono ?_); (first | exact ⟨f7, f8, hM50⟩ | exact ⟨f7, f8, hM50.drew⟩ | assumption); rintro e Y6 ⟨a6, cp6, rfl, hb6, hM6, hV1, hV2, hV3⟩)
          | (go_at_call 24; (with_reducible refine (all3_any (n := (7 + nd + ns) + (szN (nc + re) + nc)) (l1 := ([UInt8.ofNat (192 + 16 * 2 + (nc - 1)), UInt8.ofNat (ve / 16777216), UInt8.ofNat (ve / 65536), UInt8.ofNat (ve / 256), UInt8.ofNat ve] ++ (cidL h.dst ++ cidL h.src))) (l2 := putL (nc + re)) (l3 := h.cut) ?_ ?_ ?_ ?_ ?_ ?_).mono ?_)
             · rfl
             · exact HB5'.out.kept hV3 (fun _ _ h => h)
             · exact hb6
             · exact hbc.out _ hV3
             · rw [eC.out, putL_length, ← HC.out]
             · have := szN_le (nc + re); have := szN_le nt; omega
             (rintro e Y7 ⟨a7, cp7, rfl, ho7, _, hM7⟩; have hZ1 := hM7.cellAt hV1 (fun h => h); have hZ2 := hM7.cellAt hV2 (fun h => h); have hZ3 := hV3.trans hM7)))
      all_goals
        go_wp2_with fail
        go_ret
        refine ⟨_, rfl, ?_, hM5w.out.trans hZ3⟩
        rw [HRE.out, hput_eq2 HRR.out HL.out HK0.out HC.out HVE.out HRS.out]; exact ho7.mono (by have := (hM5w.out.trans hV3).size; simp; omega)
end Go.Proofs.YtolbeamphmoimaaDoor
