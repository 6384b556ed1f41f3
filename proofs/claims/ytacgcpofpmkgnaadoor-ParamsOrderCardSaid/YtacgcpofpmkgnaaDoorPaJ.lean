/- The program's take: a value put to its place. (printed by gentake.py) -/
import Derived.Test.YtacgcpofpmkgnaaDoorPaF
import Derived.Test.YtacgcpofpmkgnaaDoorPaI
import Derived.Test.YtacgcpofpmkgnaaDoorVarF
import Derived.Lib.SlBuf
namespace Go.Proofs.YtacgcpofpmkgnaaDoor
open Go.RowKit

theorem copy_any {w : World} {g o dLen dCap : Nat} {v : Value} {l : List UInt8} {C : Array Value} {T : TypeId} (ty : TypeId) (hB : Blk w g C T) (hv : Byts w v l) (hfit : o + dLen ≤ C.size) :
    ∃ w' n, (Builtin.copy_ #[29, 29] ty #[.slice (some ⟨g, o, none⟩) dLen dCap, v]).run Tryd.prog w = .ok (.int .i64 n) w' ∧ Mod (fun k => k = g) w w' ∧ Blk w' g (C.toList.take o ++ (l.take dLen).map bv ++ C.toList.drop (o + (l.take dLen).length)).toArray T := by
  have hs : (Tryd.prog.info? 5).map (·.size) = some 1 := by
    obtain ⟨i0, hi, hz0, hz1, hz2⟩ := info_parts Tryd.info5
    rw [hi]; simp [hz1]
  by_cases hl : l = []
  · subst hl
    obtain ⟨p, cap, rfl, _, _, hn⟩ := byts_val hv
    refine ⟨w, 0, run_copy_none (P := Tryd.prog) w 29 29 ty 5 _ p _ _ 0 cap Tryd.underlying29 hs (by simp), Mod.refl _ _, ?_⟩
    simpa using hB
  · obtain ⟨b, off, cap, rfl, h1, h2, h3⟩ := byts_addr hv hl
    have hrun := run_copy_row (P := Tryd.prog) w 29 29 ty 5 g o dLen dCap ⟨b, off, none⟩ l.length cap C T ((l.take dLen).map bv) Tryd.underlying29 hs hB
      (by rw [List.length_map, List.length_take, Nat.min_comm])
      (fun j u hu => by
        rw [List.getElem?_map] at hu
        obtain ⟨x, hx, rfl⟩ := Option.map_eq_some_iff.1 hu
        rw [List.getElem?_take] at hx
        split at hx
        · rw [Addr.add_lit]; exact h3 j x hx
        · simp at hx) (by rw [List.length_map, List.length_take]; omega) (bv_one _)
    rw [List.length_map] at hrun
    refine ⟨_, _, hrun, ⟨rfl, rfl, rfl, by simp [World.setRow], fun k _ hk => setRow_other w g k _ hk⟩, ?_⟩
    have := setRow_heap w g C (C.toList.take o ++ (l.take dLen).map bv ++ C.toList.drop (o + ((l.take dLen).map bv).length)).toArray T _ hB
    rw [List.length_map] at this
    exact this
theorem pm_set4 (p : Pm) (b : Bool) : (pmC p).setIfInBounds 4 (.bool b) = pmC { p with h := b } := by
  apply Array.toList_inj.1; simp [pmC, pmL]
theorem pm_set0 (p : Pm) (x : Nat) : (pmC p).setIfInBounds 0 (.int .u64 (x : Int)) = pmC { p with i := x } := by
  apply Array.toList_inj.1; simp [pmC, pmL]
theorem pm_set1 (p : Pm) (x : Nat) : (pmC p).setIfInBounds 1 (.int .u64 (x : Int)) = pmC { p with d := x } := by
  apply Array.toList_inj.1; simp [pmC, pmL]
theorem pm_set2 (p : Pm) (x : Nat) : (pmC p).setIfInBounds 2 (.int .u64 (x : Int)) = pmC { p with s := x } := by
  apply Array.toList_inj.1; simp [pmC, pmL]
theorem pm_set3 (p : Pm) (x : Nat) : (pmC p).setIfInBounds 3 (.int .u64 (x : Int)) = pmC { p with n := x } := by
  apply Array.toList_inj.1; simp [pmC, pmL]
theorem pm_tok (p : Pm) (l : List UInt8) (hp : p.t.length = 16) (hl : l.length = 16) : ((pmC p).toList.take 5 ++ (l.take 16).map bv ++ (pmC p).toList.drop (5 + (l.take 16).length)).toArray = pmC { p with t := l } := by
  apply Array.toList_inj.1
  have e : l.take 16 = l := List.take_of_length_le (by omega)
  rw [e, List.drop_of_length_le (by simp [pmC, pmL, hp, hl])]
  simp [pmC, pmL]
/-- What take leaves. -/
def TakeR (w : World) (pb : Nat) (r : Option Pm) : Ending → World → Prop := fun e w' => Mod (fun k => k = pb) w w' ∧ match r with
  | none => e = .returned (.bool false)
  | some p' => e = .returned (.bool true) ∧ PmB w' pb p'
theorem take_tok {w : World} {pb : Nat} {p : Pm} {v : Value} {l : List UInt8} (hP : PmB w pb p) (hv : OwnB w (pb + 1) v l) (hl : (l.length : Int) ≤ 100000) : Calls Tryd.prog 29 #[.pointer (some ⟨pb, 0, none⟩), .int .u64 2, v] w (TakeR w pb (if l.length = 16 then some { p with h := true, t := l } else none)) := by
  have HP := Lib.hid hP
  have HL := Lib.hid hl
  have h4 := hP.blk.cellAt 4 (v := .bool p.h) rfl
  have hf := hP.blk.free 4
  have hMs : Hid (∀ b, Mod (fun k => k = pb) w (w.setCell ⟨pb, 4, none⟩ (.bool b))) := fun b => (Mod.refl (fun k => k = pb) w).setCell (fun _ => rfl) _
  have HBs : Hid (∀ b, PmB (w.setCell ⟨pb, 4, none⟩ (.bool b)) pb { p with h := b }) := fun b => ⟨pm_set4 p b ▸ hP.blk.set 4 _, hP.len⟩
  have HV : Hid (∀ b, Byts (w.setCell ⟨pb, 4, none⟩ (.bool b)) v l) := fun b => OwnB.byts (show OwnB _ _ _ _ from (hMs.out b).own hv (fun g hg e => by have := (World.ownsRow.lt hv g hg).1; omega))
  obtain ⟨a, cap, rfl, _⟩ := byts_val hv.byts
  have hcp : Hid (∀ b, ∃ w' n, (Builtin.copy_ #[29, 29] 3 #[.slice (some ⟨pb, 5, none⟩) 16 16, .slice a l.length cap]).run Tryd.prog (w.setCell ⟨pb, 4, none⟩ (.bool b)) = .ok (.int .i64 n) w' ∧ Mod (fun k => k = pb) (w.setCell ⟨pb, 4, none⟩ (.bool b)) w' ∧ Blk w' pb ((pmC { p with h := b }).toList.take 5 ++ (l.take 16).map bv ++ (pmC { p with h := b }).toList.drop (5 + (l.take 16).length)).toArray 25) := fun b =>
    copy_any 3 (HBs.out b).blk (HV.out b) (by rw [pmC_size { p with h := b } hP.len]; omega)
  clear hP hv hl
  by_cases h16 : l.length = 16
  · rw [if_pos h16]
    have hd : ((l.length : Int) == 16) = true := by simp; omega
    obtain ⟨w2, n2, hr, hM2, hB2⟩ := hcp.out true
    rw [pm_tok { p with h := true } l HP.out.len h16] at hB2
    have HR : Hid (PmB w2 pb { p with h := true, t := l }) := ⟨hB2, h16⟩
    have hc4 := hB2.cellAt 4 (v := .bool true) rfl
    have HM2 := Lib.hid ((hMs.out true).trans hM2)
    clear hM2 hB2 h16 hcp hMs HBs HV
    go_enter Tryd.func29, Tryd.ntmps29
    go_wp2_with (at_builtin; refine Lib.wpList_copy_run _ rfl _ _ 29 29 rfl _ _ rfl rfl hr ?_)
    go_ret
    exact ⟨HM2.out, rfl, HR.out⟩
  · rw [if_neg h16]
    have hd : ((l.length : Int) == 16) = false := by simp; omega
    obtain ⟨w2, n2, hr, hM2, hB2⟩ := hcp.out false
    have hc4 := hB2.cellAt 4 (v := .bool false) rfl
    have HM2 := Lib.hid ((hMs.out false).trans hM2)
    clear hM2 hB2 h16 hcp hMs HBs HV
    go_enter Tryd.func29, Tryd.ntmps29
    go_wp2_with (at_builtin; refine Lib.wpList_copy_run _ rfl _ _ 29 29 rfl _ _ rfl rfl hr ?_)
    go_ret
    exact ⟨HM2.out, rfl⟩
def intoP (p : Pm) (k x : Nat) : Pm := match k with
  | 0 => { p with i := x }
  | 1 => { p with d := x }
  | 2 => { p with s := x }
  | _ => { p with n := x }
theorem setP_of (p : Pm) (k x : Nat) : setP p (idOf k) x = intoP p k x := by
  match k with
  | 0 => rfl
  | 1 => rfl
  | 2 => rfl
  | (_ + 3) => rfl
def intR (p : Pm) (id : Nat) (s : Nat × RS) : Option Pm := if s.2.e = 0 ∧ s.2.l = [] then some (setP p id s.1) else none
theorem len0 (l : List UInt8) : ((l.length : Int) == 0) = decide (l = []) := by
  rw [Bool.eq_iff_iff]; simp only [beq_iff_eq, decide_eq_true_eq]
  rw [← List.length_eq_zero_iff]; omega
theorem intR_end {w w' : World} {pb id : Nat} {p q : Pm} {s : Nat × RS} (hM : Mod (fun k => k = pb) w w') (hW : PmB w' pb q) (hq : setP p id s.1 = q) (b : Bool) (hb : b = (decide (s.2.e = 0) && decide (s.2.l = []))) : TakeR w pb (intR p id s) (.returned (.bool b)) w' := by
  refine ⟨hM, ?_⟩
  unfold intR
  by_cases h : s.2.e = 0 ∧ s.2.l = []
  · rw [if_pos h, hq]
    exact ⟨by rw [hb]; simp [h.1, h.2], hW⟩
  · rw [if_neg h]
    show _ = _
    rw [hb]
    simp only [not_and] at h
    by_cases h0 : s.2.e = 0
    · simp [h h0]
    · simp [h0]
set_option maxHeartbeats 4000000 in
set_option maxRecDepth 10000 in
theorem take_int {w : World} {pb : Nat} {p : Pm} {v : Value} {l : List UInt8} {id : Nat} (h2 : id ≠ 2) (hP : PmB w pb p) (hv : Byts w v l) (hl : (l.length : Int) ≤ 100000) : Calls Tryd.prog 29 #[.pointer (some ⟨pb, 0, none⟩), .int .u64 (id : Int), v] w (TakeR w pb (if inParts id = true then intR p id (RS.int ⟨l, 0⟩) else some p)) := by
  have HP := Lib.hid hP
  have HL := Lib.hid hl
  have HV := Lib.hid hv
  have hd2 : ((id : Int) == 2) = false := by simp; omega
  obtain ⟨a, cap, rfl, _⟩ := byts_val hv
  obtain ⟨s, hs⟩ : ∃ s, s = RS.int ⟨l, 0⟩ := ⟨_, rfl⟩
  rw [← hs]
  have HS := Lib.hid hs
  obtain ⟨R, hR⟩ : ∃ R, R = (if inParts id = true then intR p id s else some p) := ⟨_, rfl⟩
  rw [← hR]
  have HR := Lib.hid hR
  clear hP hv hl hs hR h2
  go_enter Tryd.func29, Tryd.ntmps29
  go_wp2_with (go_at_call 19; refine (parts_any _).mono ?_; rintro e w2 ⟨rfl, hM2⟩)
  have HM2 := Lib.hid hM2
  clear hM2
  go_loopw [29] (fun s29 wr => ∃ k : Nat, k ≤ 4 ∧ s29 = .int .i64 k ∧ Mod (fun _ => False) w wr ∧ Hid (∀ j, j < k → idOf j ≠ id)) (fun s29 _ => 4 - (intOf s29).toNat)
  case atStart => exact ⟨0, by omega, rfl, HM2.out, fun j hj => by omega⟩
  case round =>
    obtain ⟨k, hk, rfl, hM, HJ⟩ := hrel
    have HMr := Lib.hid hM
    have hk4 : k = 0 ∨ k = 1 ∨ k = 2 ∨ k = 3 ∨ k = 4 := by omega
    clear hk hM HM2
    rcases hk4 with rfl | rfl | rfl | rfl | rfl
    · have hix : ∀ w, (Instr.index 46 partsV (.int .i64 0)).run Tryd.prog w = .ok (.agg #[.int .u64 1, .func (.func 33) #[] #[]]) w := fun _ => by kernel_rfl
      by_cases he : 1 = id
      · have HE := Lib.hid he
        have hci : ((1 : Int) == (id : Int)) = true := by simp; omega
        have hci' : ((id : Int) = 1) := by omega
        clear he
        go_wp2_with ((with_reducible refine wpList_store_blk ?_ 45 (.tmp 8) (.tmp 31) ?_ wr.heap.size ?_ #[.int .u64 0, .nilFunc] #[.int .u64 1, .func (.func 33) #[] #[]] ?_ 45 (Blk.new _ _ _) (size45 _ _) ?_ ?_ ?_); (· exact rfl); (· exact rfl); (· exact rfl); (· exact rfl); (· exact rfl); (· intro v hv; simp at hv; rcases hv with rfl | rfl <;> rfl); intro wx hBx hMx; have HMx := Lib.hid (HMr.out.trans (((Mod.refl (fun _ => False) wr).alloc _).trans' hMx (fun i hi e => by omega))); have x0 : wx.cell? ⟨wr.heap.size, 0, none⟩ = some (.int .u64 1) := hBx.cellAt 0 rfl; have x1 : wx.cell? ⟨wr.heap.size, 1, none⟩ = some (.func (.func 33) #[] #[]) := hBx.cellAt 1 rfl; have HBx := Lib.hid hBx; clear hBx hMx)
        refine (read_any (HV.out.kept HMx.out (fun _ _ h => h)) (by have := HL.out; omega)).mono ?_
        rintro e w3 ⟨rb, rfl, hrb, hr, hM3⟩
        have x1' := hM3.cellAt x1 (fun h => h)
        have hne : rb ≠ pb := by
          have h1 := HP.out.blk.lt
          have h2 := HMx.out.size
          intro e; omega
        have HNE := Lib.hid hne
        clear hne x0 x1
        go_wp2_with (go_at_call 33; refine (at1 _ _).mono ?_; rintro e w' ⟨rfl, rfl⟩)
        have HP3 := Lib.hid (HP.out.kept (HMx.out.trans hM3))
        have hint := int_any hr
        rw [← HS.out] at hint
        refine (hint).mono ?_
        rintro e w4 ⟨rfl, hr4, hM4⟩
        have hP4 : Blk w4 pb (pmC p) 25 := hM4.blk HP3.out.blk (fun e => HNE.out e.symm)
        have hc4 : w4.cell? ⟨pb, 0, none⟩ = some (.int .u64 (p.i : Int)) := hP4.cellAt 0 rfl
        have hfz := hP4.free 0
        have HW5 : Hid (PmB (w4.setCell ⟨pb, 0, none⟩ (.int .u64 (s.1 : Int))) pb (intoP p 0 s.1)) := ⟨pm_set0 p s.1 ▸ hP4.set 0 _, HP.out.len⟩
        have hM5 : Hid (Mod (fun k => k = pb) w (w4.setCell ⟨pb, 0, none⟩ (.int .u64 (s.1 : Int)))) := (((HMx.out.trans hM3).mono (T := fun k => k = pb) (fun _ _ h => h.elim)).trans' hM4 (fun i hi e => by have h1 := HMx.out.size; omega)).setCell (fun _ => rfl) _
        have hr5 : Rdr (w4.setCell ⟨pb, 0, none⟩ (.int .u64 (s.1 : Int))) rb s.2 := ((Mod.refl (fun k => k = pb) w4).setCell (p := ⟨pb, 0, none⟩) (fun _ => rfl) _).rdr hr4 HNE.out (fun b cs hb e => Blk.ne hP4 (e ▸ hb) (by decide) rfl)
        clear hr4 hM4 hP4 hr hint hM3 HP3 x1'
        go_wp2_with (first | (go_at_call 27; refine (bad_any hr5).mono ?_; rintro e w' ⟨rfl, rfl⟩) | (go_at_call 24; refine (left_any hr5).mono ?_; rintro e w' ⟨rfl, rfl⟩))
        all_goals go_ret
        all_goals
          have hpi : setP p id s.1 = intoP p 0 s.1 := by rw [← HE.out]; rfl
          have hin : inParts id = true := by rw [← HE.out]; rfl
          rw [HR.out, if_pos hin]
          refine intR_end hM5.out HW5.out hpi _ ?_
          simp_all <;> exact len0 _
      · have HE := Lib.hid he
        have hci : ((1 : Int) == (id : Int)) = false := by simp; omega
        clear he
        go_wp2_with ((with_reducible refine wpList_store_blk ?_ 45 (.tmp 8) (.tmp 31) ?_ wr.heap.size ?_ #[.int .u64 0, .nilFunc] #[.int .u64 1, .func (.func 33) #[] #[]] ?_ 45 (Blk.new _ _ _) (size45 _ _) ?_ ?_ ?_); (· exact rfl); (· exact rfl); (· exact rfl); (· exact rfl); (· exact rfl); (· intro v hv; simp at hv; rcases hv with rfl | rfl <;> rfl); intro wx hBx hMx; have HMx := Lib.hid (HMr.out.trans (((Mod.refl (fun _ => False) wr).alloc _).trans' hMx (fun i hi e => by omega))); have x0 : wx.cell? ⟨wr.heap.size, 0, none⟩ = some (.int .u64 1) := hBx.cellAt 0 rfl; have x1 : wx.cell? ⟨wr.heap.size, 1, none⟩ = some (.func (.func 33) #[] #[]) := hBx.cellAt 1 rfl; have HBx := Lib.hid hBx; clear hBx hMx)
        go_roundw
        case rel => exact ⟨1, by omega, by go_num, HMx.out, fun j hj => by
          by_cases h : j < 0
          · exact HJ.out j h
          · obtain rfl : j = 0 := by omega
            exact HE.out⟩
        case measure => simp [intOf]
    · have hix : ∀ w, (Instr.index 46 partsV (.int .i64 1)).run Tryd.prog w = .ok (.agg #[.int .u64 4, .func (.func 34) #[] #[]]) w := fun _ => by kernel_rfl
      by_cases he : 4 = id
      · have HE := Lib.hid he
        have hci : ((4 : Int) == (id : Int)) = true := by simp; omega
        have hci' : ((id : Int) = 4) := by omega
        clear he
        go_wp2_with ((with_reducible refine wpList_store_blk ?_ 45 (.tmp 8) (.tmp 31) ?_ wr.heap.size ?_ #[.int .u64 0, .nilFunc] #[.int .u64 4, .func (.func 34) #[] #[]] ?_ 45 (Blk.new _ _ _) (size45 _ _) ?_ ?_ ?_); (· exact rfl); (· exact rfl); (· exact rfl); (· exact rfl); (· exact rfl); (· intro v hv; simp at hv; rcases hv with rfl | rfl <;> rfl); intro wx hBx hMx; have HMx := Lib.hid (HMr.out.trans (((Mod.refl (fun _ => False) wr).alloc _).trans' hMx (fun i hi e => by omega))); have x0 : wx.cell? ⟨wr.heap.size, 0, none⟩ = some (.int .u64 4) := hBx.cellAt 0 rfl; have x1 : wx.cell? ⟨wr.heap.size, 1, none⟩ = some (.func (.func 34) #[] #[]) := hBx.cellAt 1 rfl; have HBx := Lib.hid hBx; clear hBx hMx)
        refine (read_any (HV.out.kept HMx.out (fun _ _ h => h)) (by have := HL.out; omega)).mono ?_
        rintro e w3 ⟨rb, rfl, hrb, hr, hM3⟩
        have x1' := hM3.cellAt x1 (fun h => h)
        have hne : rb ≠ pb := by
          have h1 := HP.out.blk.lt
          have h2 := HMx.out.size
          intro e; omega
        have HNE := Lib.hid hne
        clear hne x0 x1
        go_wp2_with (go_at_call 34; refine (at2 _ _).mono ?_; rintro e w' ⟨rfl, rfl⟩)
        have HP3 := Lib.hid (HP.out.kept (HMx.out.trans hM3))
        have hint := int_any hr
        rw [← HS.out] at hint
        refine (hint).mono ?_
        rintro e w4 ⟨rfl, hr4, hM4⟩
        have hP4 : Blk w4 pb (pmC p) 25 := hM4.blk HP3.out.blk (fun e => HNE.out e.symm)
        have hc4 : w4.cell? ⟨pb, 1, none⟩ = some (.int .u64 (p.d : Int)) := hP4.cellAt 1 rfl
        have hfz := hP4.free 1
        have HW5 : Hid (PmB (w4.setCell ⟨pb, 1, none⟩ (.int .u64 (s.1 : Int))) pb (intoP p 1 s.1)) := ⟨pm_set1 p s.1 ▸ hP4.set 1 _, HP.out.len⟩
        have hM5 : Hid (Mod (fun k => k = pb) w (w4.setCell ⟨pb, 1, none⟩ (.int .u64 (s.1 : Int)))) := (((HMx.out.trans hM3).mono (T := fun k => k = pb) (fun _ _ h => h.elim)).trans' hM4 (fun i hi e => by have h1 := HMx.out.size; omega)).setCell (fun _ => rfl) _
        have hr5 : Rdr (w4.setCell ⟨pb, 1, none⟩ (.int .u64 (s.1 : Int))) rb s.2 := ((Mod.refl (fun k => k = pb) w4).setCell (p := ⟨pb, 1, none⟩) (fun _ => rfl) _).rdr hr4 HNE.out (fun b cs hb e => Blk.ne hP4 (e ▸ hb) (by decide) rfl)
        clear hr4 hM4 hP4 hr hint hM3 HP3 x1'
        go_wp2_with (first | (go_at_call 27; refine (bad_any hr5).mono ?_; rintro e w' ⟨rfl, rfl⟩) | (go_at_call 24; refine (left_any hr5).mono ?_; rintro e w' ⟨rfl, rfl⟩))
        all_goals go_ret
        all_goals
          have hpi : setP p id s.1 = intoP p 1 s.1 := by rw [← HE.out]; rfl
          have hin : inParts id = true := by rw [← HE.out]; rfl
          rw [HR.out, if_pos hin]
          refine intR_end hM5.out HW5.out hpi _ ?_
          simp_all <;> exact len0 _
      · have HE := Lib.hid he
        have hci : ((4 : Int) == (id : Int)) = false := by simp; omega
        clear he
        go_wp2_with ((with_reducible refine wpList_store_blk ?_ 45 (.tmp 8) (.tmp 31) ?_ wr.heap.size ?_ #[.int .u64 0, .nilFunc] #[.int .u64 4, .func (.func 34) #[] #[]] ?_ 45 (Blk.new _ _ _) (size45 _ _) ?_ ?_ ?_); (· exact rfl); (· exact rfl); (· exact rfl); (· exact rfl); (· exact rfl); (· intro v hv; simp at hv; rcases hv with rfl | rfl <;> rfl); intro wx hBx hMx; have HMx := Lib.hid (HMr.out.trans (((Mod.refl (fun _ => False) wr).alloc _).trans' hMx (fun i hi e => by omega))); have x0 : wx.cell? ⟨wr.heap.size, 0, none⟩ = some (.int .u64 4) := hBx.cellAt 0 rfl; have x1 : wx.cell? ⟨wr.heap.size, 1, none⟩ = some (.func (.func 34) #[] #[]) := hBx.cellAt 1 rfl; have HBx := Lib.hid hBx; clear hBx hMx)
        go_roundw
        case rel => exact ⟨2, by omega, by go_num, HMx.out, fun j hj => by
          by_cases h : j < 1
          · exact HJ.out j h
          · obtain rfl : j = 1 := by omega
            exact HE.out⟩
        case measure => simp [intOf]
    · have hix : ∀ w, (Instr.index 46 partsV (.int .i64 2)).run Tryd.prog w = .ok (.agg #[.int .u64 5, .func (.func 35) #[] #[]]) w := fun _ => by kernel_rfl
      by_cases he : 5 = id
      · have HE := Lib.hid he
        have hci : ((5 : Int) == (id : Int)) = true := by simp; omega
        have hci' : ((id : Int) = 5) := by omega
        clear he
        go_wp2_with ((with_reducible refine wpList_store_blk ?_ 45 (.tmp 8) (.tmp 31) ?_ wr.heap.size ?_ #[.int .u64 0, .nilFunc] #[.int .u64 5, .func (.func 35) #[] #[]] ?_ 45 (Blk.new _ _ _) (size45 _ _) ?_ ?_ ?_); (· exact rfl); (· exact rfl); (· exact rfl); (· exact rfl); (· exact rfl); (· intro v hv; simp at hv; rcases hv with rfl | rfl <;> rfl); intro wx hBx hMx; have HMx := Lib.hid (HMr.out.trans (((Mod.refl (fun _ => False) wr).alloc _).trans' hMx (fun i hi e => by omega))); have x0 : wx.cell? ⟨wr.heap.size, 0, none⟩ = some (.int .u64 5) := hBx.cellAt 0 rfl; have x1 : wx.cell? ⟨wr.heap.size, 1, none⟩ = some (.func (.func 35) #[] #[]) := hBx.cellAt 1 rfl; have HBx := Lib.hid hBx; clear hBx hMx)
        refine (read_any (HV.out.kept HMx.out (fun _ _ h => h)) (by have := HL.out; omega)).mono ?_
        rintro e w3 ⟨rb, rfl, hrb, hr, hM3⟩
        have x1' := hM3.cellAt x1 (fun h => h)
        have hne : rb ≠ pb := by
          have h1 := HP.out.blk.lt
          have h2 := HMx.out.size
          intro e; omega
        have HNE := Lib.hid hne
        clear hne x0 x1
        go_wp2_with (go_at_call 35; refine (at3 _ _).mono ?_; rintro e w' ⟨rfl, rfl⟩)
        have HP3 := Lib.hid (HP.out.kept (HMx.out.trans hM3))
        have hint := int_any hr
        rw [← HS.out] at hint
        refine (hint).mono ?_
        rintro e w4 ⟨rfl, hr4, hM4⟩
        have hP4 : Blk w4 pb (pmC p) 25 := hM4.blk HP3.out.blk (fun e => HNE.out e.symm)
        have hc4 : w4.cell? ⟨pb, 2, none⟩ = some (.int .u64 (p.s : Int)) := hP4.cellAt 2 rfl
        have hfz := hP4.free 2
        have HW5 : Hid (PmB (w4.setCell ⟨pb, 2, none⟩ (.int .u64 (s.1 : Int))) pb (intoP p 2 s.1)) := ⟨pm_set2 p s.1 ▸ hP4.set 2 _, HP.out.len⟩
        have hM5 : Hid (Mod (fun k => k = pb) w (w4.setCell ⟨pb, 2, none⟩ (.int .u64 (s.1 : Int)))) := (((HMx.out.trans hM3).mono (T := fun k => k = pb) (fun _ _ h => h.elim)).trans' hM4 (fun i hi e => by have h1 := HMx.out.size; omega)).setCell (fun _ => rfl) _
        have hr5 : Rdr (w4.setCell ⟨pb, 2, none⟩ (.int .u64 (s.1 : Int))) rb s.2 := ((Mod.refl (fun k => k = pb) w4).setCell (p := ⟨pb, 2, none⟩) (fun _ => rfl) _).rdr hr4 HNE.out (fun b cs hb e => Blk.ne hP4 (e ▸ hb) (by decide) rfl)
        clear hr4 hM4 hP4 hr hint hM3 HP3 x1'
        go_wp2_with (first | (go_at_call 27; refine (bad_any hr5).mono ?_; rintro e w' ⟨rfl, rfl⟩) | (go_at_call 24; refine (left_any hr5).mono ?_; rintro e w' ⟨rfl, rfl⟩))
        all_goals go_ret
        all_goals
          have hpi : setP p id s.1 = intoP p 2 s.1 := by rw [← HE.out]; rfl
          have hin : inParts id = true := by rw [← HE.out]; rfl
          rw [HR.out, if_pos hin]
          refine intR_end hM5.out HW5.out hpi _ ?_
          simp_all <;> exact len0 _
      · have HE := Lib.hid he
        have hci : ((5 : Int) == (id : Int)) = false := by simp; omega
        clear he
        go_wp2_with ((with_reducible refine wpList_store_blk ?_ 45 (.tmp 8) (.tmp 31) ?_ wr.heap.size ?_ #[.int .u64 0, .nilFunc] #[.int .u64 5, .func (.func 35) #[] #[]] ?_ 45 (Blk.new _ _ _) (size45 _ _) ?_ ?_ ?_); (· exact rfl); (· exact rfl); (· exact rfl); (· exact rfl); (· exact rfl); (· intro v hv; simp at hv; rcases hv with rfl | rfl <;> rfl); intro wx hBx hMx; have HMx := Lib.hid (HMr.out.trans (((Mod.refl (fun _ => False) wr).alloc _).trans' hMx (fun i hi e => by omega))); have x0 : wx.cell? ⟨wr.heap.size, 0, none⟩ = some (.int .u64 5) := hBx.cellAt 0 rfl; have x1 : wx.cell? ⟨wr.heap.size, 1, none⟩ = some (.func (.func 35) #[] #[]) := hBx.cellAt 1 rfl; have HBx := Lib.hid hBx; clear hBx hMx)
        go_roundw
        case rel => exact ⟨3, by omega, by go_num, HMx.out, fun j hj => by
          by_cases h : j < 2
          · exact HJ.out j h
          · obtain rfl : j = 2 := by omega
            exact HE.out⟩
        case measure => simp [intOf]
    · have hix : ∀ w, (Instr.index 46 partsV (.int .i64 3)).run Tryd.prog w = .ok (.agg #[.int .u64 8, .func (.func 36) #[] #[]]) w := fun _ => by kernel_rfl
      by_cases he : 8 = id
      · have HE := Lib.hid he
        have hci : ((8 : Int) == (id : Int)) = true := by simp; omega
        have hci' : ((id : Int) = 8) := by omega
        clear he
        go_wp2_with ((with_reducible refine wpList_store_blk ?_ 45 (.tmp 8) (.tmp 31) ?_ wr.heap.size ?_ #[.int .u64 0, .nilFunc] #[.int .u64 8, .func (.func 36) #[] #[]] ?_ 45 (Blk.new _ _ _) (size45 _ _) ?_ ?_ ?_); (· exact rfl); (· exact rfl); (· exact rfl); (· exact rfl); (· exact rfl); (· intro v hv; simp at hv; rcases hv with rfl | rfl <;> rfl); intro wx hBx hMx; have HMx := Lib.hid (HMr.out.trans (((Mod.refl (fun _ => False) wr).alloc _).trans' hMx (fun i hi e => by omega))); have x0 : wx.cell? ⟨wr.heap.size, 0, none⟩ = some (.int .u64 8) := hBx.cellAt 0 rfl; have x1 : wx.cell? ⟨wr.heap.size, 1, none⟩ = some (.func (.func 36) #[] #[]) := hBx.cellAt 1 rfl; have HBx := Lib.hid hBx; clear hBx hMx)
        refine (read_any (HV.out.kept HMx.out (fun _ _ h => h)) (by have := HL.out; omega)).mono ?_
        rintro e w3 ⟨rb, rfl, hrb, hr, hM3⟩
        have x1' := hM3.cellAt x1 (fun h => h)
        have hne : rb ≠ pb := by
          have h1 := HP.out.blk.lt
          have h2 := HMx.out.size
          intro e; omega
        have HNE := Lib.hid hne
        clear hne x0 x1
        go_wp2_with (go_at_call 36; refine (at4 _ _).mono ?_; rintro e w' ⟨rfl, rfl⟩)
        have HP3 := Lib.hid (HP.out.kept (HMx.out.trans hM3))
        have hint := int_any hr
        rw [← HS.out] at hint
        refine (hint).mono ?_
        rintro e w4 ⟨rfl, hr4, hM4⟩
        have hP4 : Blk w4 pb (pmC p) 25 := hM4.blk HP3.out.blk (fun e => HNE.out e.symm)
        have hc4 : w4.cell? ⟨pb, 3, none⟩ = some (.int .u64 (p.n : Int)) := hP4.cellAt 3 rfl
        have hfz := hP4.free 3
        have HW5 : Hid (PmB (w4.setCell ⟨pb, 3, none⟩ (.int .u64 (s.1 : Int))) pb (intoP p 3 s.1)) := ⟨pm_set3 p s.1 ▸ hP4.set 3 _, HP.out.len⟩
        have hM5 : Hid (Mod (fun k => k = pb) w (w4.setCell ⟨pb, 3, none⟩ (.int .u64 (s.1 : Int)))) := (((HMx.out.trans hM3).mono (T := fun k => k = pb) (fun _ _ h => h.elim)).trans' hM4 (fun i hi e => by have h1 := HMx.out.size; omega)).setCell (fun _ => rfl) _
        have hr5 : Rdr (w4.setCell ⟨pb, 3, none⟩ (.int .u64 (s.1 : Int))) rb s.2 := ((Mod.refl (fun k => k = pb) w4).setCell (p := ⟨pb, 3, none⟩) (fun _ => rfl) _).rdr hr4 HNE.out (fun b cs hb e => Blk.ne hP4 (e ▸ hb) (by decide) rfl)
        clear hr4 hM4 hP4 hr hint hM3 HP3 x1'
        go_wp2_with (first | (go_at_call 27; refine (bad_any hr5).mono ?_; rintro e w' ⟨rfl, rfl⟩) | (go_at_call 24; refine (left_any hr5).mono ?_; rintro e w' ⟨rfl, rfl⟩))
        all_goals go_ret
        all_goals
          have hpi : setP p id s.1 = intoP p 3 s.1 := by rw [← HE.out]; rfl
          have hin : inParts id = true := by rw [← HE.out]; rfl
          rw [HR.out, if_pos hin]
          refine intR_end hM5.out HW5.out hpi _ ?_
          simp_all <;> exact len0 _
      · have HE := Lib.hid he
        have hci : ((8 : Int) == (id : Int)) = false := by simp; omega
        clear he
        go_wp2_with ((with_reducible refine wpList_store_blk ?_ 45 (.tmp 8) (.tmp 31) ?_ wr.heap.size ?_ #[.int .u64 0, .nilFunc] #[.int .u64 8, .func (.func 36) #[] #[]] ?_ 45 (Blk.new _ _ _) (size45 _ _) ?_ ?_ ?_); (· exact rfl); (· exact rfl); (· exact rfl); (· exact rfl); (· exact rfl); (· intro v hv; simp at hv; rcases hv with rfl | rfl <;> rfl); intro wx hBx hMx; have HMx := Lib.hid (HMr.out.trans (((Mod.refl (fun _ => False) wr).alloc _).trans' hMx (fun i hi e => by omega))); have x0 : wx.cell? ⟨wr.heap.size, 0, none⟩ = some (.int .u64 8) := hBx.cellAt 0 rfl; have x1 : wx.cell? ⟨wr.heap.size, 1, none⟩ = some (.func (.func 36) #[] #[]) := hBx.cellAt 1 rfl; have HBx := Lib.hid hBx; clear hBx hMx)
        go_roundw
        case rel => exact ⟨4, by omega, by go_num, HMx.out, fun j hj => by
          by_cases h : j < 3
          · exact HJ.out j h
          · obtain rfl : j = 3 := by omega
            exact HE.out⟩
        case measure => simp [intOf]
    · go_wp2
      go_ret
      have h0 := HJ.out 0 (by omega)
      have h1 := HJ.out 1 (by omega)
      have h2 := HJ.out 2 (by omega)
      have h3 := HJ.out 3 (by omega)
      simp only [idOf] at h0 h1 h2 h3
      have hin : inParts id = false := by
        simp only [inParts, Bool.or_eq_false_iff, decide_eq_false_iff_not]; omega
      rw [HR.out, if_neg (by simp [hin])]
      exact ⟨HMr.out.mono (fun _ _ h => h.elim), rfl, HP.out.kept HMr.out⟩
theorem known_in (id : Nat) (h : id ≠ 2) : knownB id = inParts id := by simp [knownB, inParts, h]
theorem take_any {w : World} {pb : Nat} {p : Pm} {v : Value} {l : List UInt8} {id : Nat} (hP : PmB w pb p) (hv : OwnB w (pb + 1) v l) (hl : (l.length : Int) ≤ 100000) : Calls Tryd.prog 29 #[.pointer (some ⟨pb, 0, none⟩), .int .u64 (id : Int), v] w (TakeR w pb (takeL p id l)) := by
  by_cases h2 : id = 2
  · subst h2
    have := take_tok hP hv hl
    simpa [takeL] using this
  · have := take_int h2 hP hv.byts hl
    unfold takeL
    rw [if_neg h2, known_in id h2]
    exact this
end Go.Proofs.YtacgcpofpmkgnaaDoor
