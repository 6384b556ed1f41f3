/- Parts, whether parameters may be, and the idle ticks: program and reference. -/
import Derived.Test.YtacgcpofpmkgnaaDoorVarE
import Derived.Test.YtacgcpofpmkgnaaDoorPaD
namespace Go.Proofs.YtacgcpofpmkgnaaDoor
open Go.RowKit

def partsC : Array Value := #[.int .u64 1, .func (.func 33) #[] #[], .int .u64 4, .func (.func 34) #[] #[], .int .u64 5, .func (.func 35) #[] #[], .int .u64 8, .func (.func 36) #[] #[]]
def partsV : Value := .agg partsC
theorem size46 : (Tryd.prog.info? 46).map (·.size) = some partsC.size := by kernel_rfl
set_option maxRecDepth 10000 in
theorem partsC_one : ∀ v ∈ partsC.toList, v.oneCell' = true := by unfold partsC; decide
theorem parts_any (w : World) : Calls Tryd.prog 19 #[] w fun e w' => e = .returned partsV ∧ Mod (fun _ => False) w w' := by
  go_enter Tryd.func19, Tryd.ntmps19
  go_wp2_with (refine wpList_store_blk rfl 46 _ _ rfl w.heap.size (by rfl) _ partsC (by rfl) 46 (Blk.new _ _ _) size46 rfl partsC_one ?_; intro w1 hB hM)
  have hl := blk_loadVar (P := Tryd.prog) hB Tryd.underlying46 rfl size46
  refine bodyPost_ret (v := partsV) ?_ rfl ⟨rfl, ((Mod.refl (fun _ => False) w).alloc _).trans' hM (fun i hi e => by omega)⟩
  exact results_cell Tryd.results19 _ rfl hl
theorem at1 (w : World) (b : Nat) : Calls Tryd.prog 33 #[.pointer (some ⟨b, 0, none⟩)] w fun e w' => w = w' ∧ e = .returned (.pointer (some ⟨b, 0, none⟩)) := by
  go_enter Tryd.func33, Tryd.ntmps33
  go_wp2
  go_ret
  exact ⟨rfl, rfl⟩
theorem at2 (w : World) (b : Nat) : Calls Tryd.prog 34 #[.pointer (some ⟨b, 0, none⟩)] w fun e w' => w = w' ∧ e = .returned (.pointer (some ⟨b, 1, none⟩)) := by
  go_enter Tryd.func34, Tryd.ntmps34
  go_wp2
  go_ret
  exact ⟨rfl, rfl⟩
theorem at3 (w : World) (b : Nat) : Calls Tryd.prog 35 #[.pointer (some ⟨b, 0, none⟩)] w fun e w' => w = w' ∧ e = .returned (.pointer (some ⟨b, 2, none⟩)) := by
  go_enter Tryd.func35, Tryd.ntmps35
  go_wp2
  go_ret
  exact ⟨rfl, rfl⟩
theorem at4 (w : World) (b : Nat) : Calls Tryd.prog 36 #[.pointer (some ⟨b, 0, none⟩)] w fun e w' => w = w' ∧ e = .returned (.pointer (some ⟨b, 3, none⟩)) := by
  go_enter Tryd.func36, Tryd.ntmps36
  go_wp2
  go_ret
  exact ⟨rfl, rfl⟩
/-- The cells of parameters in a block of their own. -/
structure PmB (w : World) (b : Nat) (p : Pm) : Prop where
  blk : Blk w b (pmC p) 25
  len : p.t.length = 16
theorem size25 (p : Pm) (h : p.t.length = 16) : (Tryd.prog.info? 25).map (·.size) = some (pmC p).size := by rw [pmC_size p h]; kernel_rfl
theorem size23 : (Tryd.prog.info? 23).map (·.size) = some 16 := by kernel_rfl
theorem PmB.cells {w : World} {b : Nat} {p : Pm} (h : PmB w b p) : w.cell? ⟨b, 0, none⟩ = some (.int .u64 (p.i : Int)) ∧ w.cell? ⟨b, 1, none⟩ = some (.int .u64 (p.d : Int)) ∧ w.cell? ⟨b, 2, none⟩ = some (.int .u64 (p.s : Int)) ∧ w.cell? ⟨b, 3, none⟩ = some (.int .u64 (p.n : Int)) ∧ w.cell? ⟨b, 4, none⟩ = some (.bool p.h) :=
  ⟨h.blk.cellAt 0 rfl, h.blk.cellAt 1 rfl, h.blk.cellAt 2 rfl, h.blk.cellAt 3 rfl, h.blk.cellAt 4 rfl⟩
theorem PmB.tok {w : World} {b : Nat} {p : Pm} (h : PmB w b p) : w.rangeAt b 5 (p.t.map bv) := h.blk.range 5 _ (fun j v hv => by
  rw [List.getElem?_map] at hv
  obtain ⟨x, hx, rfl⟩ := Option.map_eq_some_iff.1 hv
  exact pmC_tok p j x hx)
/-- The token's value is read. -/
theorem PmB.loadTok {w : World} {b : Nat} {p : Pm} (h : PmB w b p) : (Instr.loadAt 23 (.pointer (some ⟨b, 5, none⟩))).run Tryd.prog w = .ok (.agg (p.t.map bv).toArray) w :=
  run_loadAt_mid w b 5 23 (p.t.map bv) _ h.tok Tryd.underlying23 rfl (by rw [size23, List.length_map, h.len])
theorem PmB.new (w : World) (p : Pm) (h : p.t.length = 16) : PmB (w.alloc (.cells (pmC p) 25)) w.heap.size p := ⟨Blk.new _ _ _, h⟩
theorem zeros_cells : #[Value.int .u8 0, .int .u8 0, .int .u8 0, .int .u8 0, .int .u8 0, .int .u8 0, .int .u8 0, .int .u8 0, .int .u8 0, .int .u8 0, .int .u8 0, .int .u8 0, .int .u8 0, .int .u8 0, .int .u8 0, .int .u8 0] = (zeros16.map bv).toArray := rfl
set_option maxHeartbeats 400000 in
set_option maxRecDepth 10000 in
theorem may_any {p : Pm} (h : p.t.length = 16) (w : World) : Calls Tryd.prog 10 #[pmV p] w fun e w' => e = .returned (.bool (mayB p)) ∧ Mod (fun _ => False) w w' := by
  have HB := PmB.new w p h
  obtain ⟨c0, c1, c2, c3, c4⟩ := HB.cells
  have lt := Lib.hid HB.loadTok
  have te := Lib.hid (fun w => tok_bin w p.t zeros16 h rfl)
  obtain ⟨D, hD⟩ : ∃ D, D = decide (p.t = zeros16) := ⟨_, rfl⟩
  rw [← hD, ← zeros_cells] at te
  unfold pmV
  have HD := Lib.hid hD
  clear HB hD
  generalize pmC p = C at *
  go_enter Tryd.func10, Tryd.ntmps10
  go_wp2_with (first | ((with_reducible refine wpList_load_g 23 (.tmp 20) ?_ ?_ (.pointer (some ⟨w.heap.size, 5, none⟩)) (.agg (p.t.map bv).toArray) ?_ lt.out ?_); (· exact rfl); (· exact rfl); (· exact rfl)) | ((with_reducible refine wpList_eq_g .eql 23 23 (.tmp 21) (.tmp 22) ?_ ?_ (p.t.map bv).toArray _ ?_ ?_ tok_guard D (te.out _) ?_); (· exact rfl); (· exact rfl); (· exact rfl); (· exact rfl)))
  all_goals go_ret
  all_goals refine ⟨ret_bool ?_, (Mod.refl _ _).alloc _⟩
  all_goals (unfold mayB; rw [← HD.out]; simp_all <;> omega)
set_option maxHeartbeats 400000 in
set_option maxRecDepth 10000 in
theorem refmay_any {p : Pm} (h : p.t.length = 16) (w : World) : Calls Tryd.prog 11 #[pmV p] w fun e w' => e = .returned (.bool (mayB p)) ∧ Mod (fun _ => False) w w' := by
  have HB := PmB.new w p h
  obtain ⟨c0, c1, c2, c3, c4⟩ := HB.cells
  have lt := Lib.hid HB.loadTok
  have te := Lib.hid (fun w => tok_bin w p.t zeros16 h rfl)
  obtain ⟨D, hD⟩ : ∃ D, D = decide (p.t = zeros16) := ⟨_, rfl⟩
  rw [← hD, ← zeros_cells] at te
  unfold pmV
  have HD := Lib.hid hD
  clear HB hD
  generalize pmC p = C at *
  go_enter Tryd.func11, Tryd.ntmps11
  go_wp2_with (first | ((with_reducible refine wpList_load_g 23 (.tmp 25) ?_ ?_ (.pointer (some ⟨w.heap.size, 5, none⟩)) (.agg (p.t.map bv).toArray) ?_ lt.out ?_); (· exact rfl); (· exact rfl); (· exact rfl)) | ((with_reducible refine wpList_eq_g .eql 23 23 (.tmp 26) (.tmp 27) ?_ ?_ (p.t.map bv).toArray _ ?_ ?_ tok_guard D (te.out _) ?_); (· exact rfl); (· exact rfl); (· exact rfl); (· exact rfl)))
  all_goals go_ret
  all_goals refine ⟨ret_bool ?_, (Mod.refl _ _).alloc _⟩
  all_goals (unfold mayB; rw [← HD.out]; simp_all <;> omega)
theorem max_eq (a b : Nat) : ((max a b : Nat) : Int) = max (a : Int) b := by omega
theorem idle_any (a b : Nat) (w : World) : Calls Tryd.prog 15 #[.int .u64 (a : Int), .int .u64 (b : Int)] w fun e w' => w = w' ∧ e = .returned (.int .u64 (idleN a b : Int)) := by
  go_enter Tryd.func15, Tryd.ntmps15
  go_wp2
  all_goals go_ret
  all_goals refine ⟨rfl, ret_int ?_⟩
  all_goals (unfold idleN; split <;> simp_all <;> omega)
theorem refidle_any (a b : Nat) (w : World) : Calls Tryd.prog 16 #[.int .u64 (a : Int), .int .u64 (b : Int)] w fun e w' => w = w' ∧ e = .returned (.int .u64 (idleN a b : Int)) := by
  go_enter Tryd.func16, Tryd.ntmps16
  go_wp2
  all_goals go_ret
  all_goals refine ⟨rfl, ret_int ?_⟩
  all_goals (unfold idleN; split <;> simp_all <;> omega)
end Go.Proofs.YtacgcpofpmkgnaaDoor
