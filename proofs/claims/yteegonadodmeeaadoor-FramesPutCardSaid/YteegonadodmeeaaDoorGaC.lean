/- The kinds' functions that take what a kind has. (printed by gengac.py) -/
import Derived.Test.YteegonadodmeeaaDoorGaB
namespace Go.Proofs.YteegonadodmeeaaDoor
open Go.RowKit

theorem new2 (w : World) (o : Obj) (cs : Array Value) (t : TypeId) : Blk ((w.alloc o).alloc (.cells cs t)) (w.heap.size + 1) cs t := by
  have h := Blk.new (w.alloc o) cs t
  rw [show (w.alloc o).heap.size = w.heap.size + 1 by simp] at h
  exact h
abbrev frZ : Array Value := #[.int .i64 0, .int .u64 0, .int .u64 0, .int .u64 0, .int .u64 0, .bool false, .slice none 0 0, .slice none 0 0, .int .u8 0, .int .u8 0, .int .u8 0, .int .u8 0, .int .u8 0, .int .u8 0, .int .u8 0, .int .u8 0, .int .u8 0, .int .u8 0, .int .u8 0, .int .u8 0, .int .u8 0, .int .u8 0, .int .u8 0, .int .u8 0]

set_option maxRecDepth 10000 in
theorem has5 {w : World} {f : Fr} {vd vr : Value} (hv : FrV w f vd vr) : Calls Tryd.prog 43 #[frV f vd vr] w fun e w' => e = .returned (frV ⟨0, 0, f.a, 0, 0, false, [], [], zeros16⟩ (.slice none 0 0) (.slice none 0 0)) ∧ Mod (fun _ => False) w w' := by
  have HB := FrB.new w f vd vr hv.t
  have e0 : (frC f vd vr)[0]? = some (.int .i64 f.k) := rfl
  have e1 : (frC f vd vr)[1]? = some (.int .u64 (f.id : Int)) := rfl
  have e2 : (frC f vd vr)[2]? = some (.int .u64 (f.a : Int)) := rfl
  have e3 : (frC f vd vr)[3]? = some (.int .u64 (f.b : Int)) := rfl
  have e4 : (frC f vd vr)[4]? = some (.int .u64 (f.c : Int)) := rfl
  have e5 : (frC f vd vr)[5]? = some (.bool f.fl) := rfl
  have e6 : (frC f vd vr)[6]? = some vd := rfl
  have e7 : (frC f vd vr)[7]? = some vr := rfl
  have HG : Hid (FrV w ⟨0, 0, f.a, 0, 0, false, [], [], zeros16⟩ (.slice none 0 0) (.slice none 0 0)) := ⟨Sl.nil _ _, Sl.nil _ _, rfl, by first | exact hv.dl | simp, by first | exact hv.rl | simp⟩
  obtain ⟨da, dc, hvd, _⟩ := byts_val hv.d
  obtain ⟨ra, rc, hvr, _⟩ := rg_val hv.r
  have hbu : Tryd.prog.built 27 [(2, .int .u64 (f.a : Int))] = some (frC ⟨0, 0, f.a, 0, 0, false, [], [], zeros16⟩ (.slice none 0 0) (.slice none 0 0)) := by
    kernel_rfl
  have HBU := Lib.hid hbu
  have HONE := Lib.hid (frC_one HG.out)
  have HSZ := Lib.hid (sizeFr ⟨0, 0, f.a, 0, 0, false, [], [], zeros16⟩ (.slice none 0 0) (.slice none 0 0) HG.out.t)
  have HSS : Hid (frZ.size = (frC ⟨0, 0, f.a, 0, 0, false, [], [], zeros16⟩ (.slice none 0 0) (.slice none 0 0)).size) := (frC_size ⟨0, 0, f.a, 0, 0, false, [], [], zeros16⟩ (.slice none 0 0) (.slice none 0 0) HG.out.t).symm
  unfold frV
  clear HB hbu HG hv hvd hvr
  generalize frC ⟨0, 0, f.a, 0, 0, false, [], [], zeros16⟩ (.slice none 0 0) (.slice none 0 0) = G at *
  generalize frC f vd vr = C at *
  go_enter Tryd.func43, Tryd.ntmps43
  go_wp2_with (first
    | ((with_reducible refine wpList_build_c ?_ 27 [(2, .tmp 4)] ?_ [(2, .int .u64 (f.a : Int))] ?_ G HBU.out ?_); (· exact rfl); (· exact rfl); (· exact rfl))
    | ((with_reducible refine wpList_store_blk ?_ 27 (.tmp 2) (.tmp 5) ?_ (w.heap.size + 1) ?_ frZ G ?_ 27 (new2 _ _ _ _) HSZ.out HSS.out HONE.out ?_); (· exact rfl); (· exact rfl); (· exact rfl); (· exact rfl); intro w1 hB hM)
    | fail)
  have hl := blk_loadVar (P := Tryd.prog) hB Tryd.underlying27 rfl HSZ.out
  refine bodyPost_ret (v := .agg G) ?_ rfl ⟨rfl, (((Mod.refl (fun _ => False) w).alloc _).alloc _).trans' hM (fun i hi e => by omega)⟩
  exact results_cell Tryd.results43 _ rfl hl
set_option maxRecDepth 10000 in
theorem has6 {w : World} {f : Fr} {vd vr : Value} (hv : FrV w f vd vr) : Calls Tryd.prog 44 #[frV f vd vr] w fun e w' => e = .returned (frV ⟨0, f.id, f.a, 0, 0, false, [], [], zeros16⟩ (.slice none 0 0) (.slice none 0 0)) ∧ Mod (fun _ => False) w w' := by
  have HB := FrB.new w f vd vr hv.t
  have e0 : (frC f vd vr)[0]? = some (.int .i64 f.k) := rfl
  have e1 : (frC f vd vr)[1]? = some (.int .u64 (f.id : Int)) := rfl
  have e2 : (frC f vd vr)[2]? = some (.int .u64 (f.a : Int)) := rfl
  have e3 : (frC f vd vr)[3]? = some (.int .u64 (f.b : Int)) := rfl
  have e4 : (frC f vd vr)[4]? = some (.int .u64 (f.c : Int)) := rfl
  have e5 : (frC f vd vr)[5]? = some (.bool f.fl) := rfl
  have e6 : (frC f vd vr)[6]? = some vd := rfl
  have e7 : (frC f vd vr)[7]? = some vr := rfl
  have HG : Hid (FrV w ⟨0, f.id, f.a, 0, 0, false, [], [], zeros16⟩ (.slice none 0 0) (.slice none 0 0)) := ⟨Sl.nil _ _, Sl.nil _ _, rfl, by first | exact hv.dl | simp, by first | exact hv.rl | simp⟩
  obtain ⟨da, dc, hvd, _⟩ := byts_val hv.d
  obtain ⟨ra, rc, hvr, _⟩ := rg_val hv.r
  have hbu : Tryd.prog.built 27 [(1, .int .u64 (f.id : Int)), (2, .int .u64 (f.a : Int))] = some (frC ⟨0, f.id, f.a, 0, 0, false, [], [], zeros16⟩ (.slice none 0 0) (.slice none 0 0)) := by
    kernel_rfl
  have HBU := Lib.hid hbu
  have HONE := Lib.hid (frC_one HG.out)
  have HSZ := Lib.hid (sizeFr ⟨0, f.id, f.a, 0, 0, false, [], [], zeros16⟩ (.slice none 0 0) (.slice none 0 0) HG.out.t)
  have HSS : Hid (frZ.size = (frC ⟨0, f.id, f.a, 0, 0, false, [], [], zeros16⟩ (.slice none 0 0) (.slice none 0 0)).size) := (frC_size ⟨0, f.id, f.a, 0, 0, false, [], [], zeros16⟩ (.slice none 0 0) (.slice none 0 0) HG.out.t).symm
  unfold frV
  clear HB hbu HG hv hvd hvr
  generalize frC ⟨0, f.id, f.a, 0, 0, false, [], [], zeros16⟩ (.slice none 0 0) (.slice none 0 0) = G at *
  generalize frC f vd vr = C at *
  go_enter Tryd.func44, Tryd.ntmps44
  go_wp2_with (first
    | ((with_reducible refine wpList_build_c ?_ 27 [(1, .tmp 4), (2, .tmp 6)] ?_ [(1, .int .u64 (f.id : Int)), (2, .int .u64 (f.a : Int))] ?_ G HBU.out ?_); (· exact rfl); (· exact rfl); (· exact rfl))
    | ((with_reducible refine wpList_store_blk ?_ 27 (.tmp 2) (.tmp 7) ?_ (w.heap.size + 1) ?_ frZ G ?_ 27 (new2 _ _ _ _) HSZ.out HSS.out HONE.out ?_); (· exact rfl); (· exact rfl); (· exact rfl); (· exact rfl); intro w1 hB hM)
    | fail)
  have hl := blk_loadVar (P := Tryd.prog) hB Tryd.underlying27 rfl HSZ.out
  refine bodyPost_ret (v := .agg G) ?_ rfl ⟨rfl, (((Mod.refl (fun _ => False) w).alloc _).alloc _).trans' hM (fun i hi e => by omega)⟩
  exact results_cell Tryd.results44 _ rfl hl
set_option maxRecDepth 10000 in
theorem has7 {w : World} {f : Fr} {vd vr : Value} (hv : FrV w f vd vr) : Calls Tryd.prog 45 #[frV f vd vr] w fun e w' => e = .returned (frV ⟨0, 0, f.a, 0, 0, f.fl, [], [], zeros16⟩ (.slice none 0 0) (.slice none 0 0)) ∧ Mod (fun _ => False) w w' := by
  have HB := FrB.new w f vd vr hv.t
  have e0 : (frC f vd vr)[0]? = some (.int .i64 f.k) := rfl
  have e1 : (frC f vd vr)[1]? = some (.int .u64 (f.id : Int)) := rfl
  have e2 : (frC f vd vr)[2]? = some (.int .u64 (f.a : Int)) := rfl
  have e3 : (frC f vd vr)[3]? = some (.int .u64 (f.b : Int)) := rfl
  have e4 : (frC f vd vr)[4]? = some (.int .u64 (f.c : Int)) := rfl
  have e5 : (frC f vd vr)[5]? = some (.bool f.fl) := rfl
  have e6 : (frC f vd vr)[6]? = some vd := rfl
  have e7 : (frC f vd vr)[7]? = some vr := rfl
  have HG : Hid (FrV w ⟨0, 0, f.a, 0, 0, f.fl, [], [], zeros16⟩ (.slice none 0 0) (.slice none 0 0)) := ⟨Sl.nil _ _, Sl.nil _ _, rfl, by first | exact hv.dl | simp, by first | exact hv.rl | simp⟩
  obtain ⟨da, dc, hvd, _⟩ := byts_val hv.d
  obtain ⟨ra, rc, hvr, _⟩ := rg_val hv.r
  have hbu : Tryd.prog.built 27 [(2, .int .u64 (f.a : Int)), (5, .bool f.fl)] = some (frC ⟨0, 0, f.a, 0, 0, f.fl, [], [], zeros16⟩ (.slice none 0 0) (.slice none 0 0)) := by
    kernel_rfl
  have HBU := Lib.hid hbu
  have HONE := Lib.hid (frC_one HG.out)
  have HSZ := Lib.hid (sizeFr ⟨0, 0, f.a, 0, 0, f.fl, [], [], zeros16⟩ (.slice none 0 0) (.slice none 0 0) HG.out.t)
  have HSS : Hid (frZ.size = (frC ⟨0, 0, f.a, 0, 0, f.fl, [], [], zeros16⟩ (.slice none 0 0) (.slice none 0 0)).size) := (frC_size ⟨0, 0, f.a, 0, 0, f.fl, [], [], zeros16⟩ (.slice none 0 0) (.slice none 0 0) HG.out.t).symm
  unfold frV
  clear HB hbu HG hv hvd hvr
  generalize frC ⟨0, 0, f.a, 0, 0, f.fl, [], [], zeros16⟩ (.slice none 0 0) (.slice none 0 0) = G at *
  generalize frC f vd vr = C at *
  go_enter Tryd.func45, Tryd.ntmps45
  go_wp2_with (first
    | ((with_reducible refine wpList_build_c ?_ 27 [(2, .tmp 4), (5, .tmp 6)] ?_ [(2, .int .u64 (f.a : Int)), (5, .bool f.fl)] ?_ G HBU.out ?_); (· exact rfl); (· exact rfl); (· exact rfl))
    | ((with_reducible refine wpList_store_blk ?_ 27 (.tmp 2) (.tmp 7) ?_ (w.heap.size + 1) ?_ frZ G ?_ 27 (new2 _ _ _ _) HSZ.out HSS.out HONE.out ?_); (· exact rfl); (· exact rfl); (· exact rfl); (· exact rfl); intro w1 hB hM)
    | fail)
  have hl := blk_loadVar (P := Tryd.prog) hB Tryd.underlying27 rfl HSZ.out
  refine bodyPost_ret (v := .agg G) ?_ rfl ⟨rfl, (((Mod.refl (fun _ => False) w).alloc _).alloc _).trans' hM (fun i hi e => by omega)⟩
  exact results_cell Tryd.results45 _ rfl hl
set_option maxRecDepth 10000 in
theorem has8 {w : World} {f : Fr} {vd vr : Value} (hv : FrV w f vd vr) : Calls Tryd.prog 46 #[frV f vd vr] w fun e w' => e = .returned (frV ⟨0, 0, 0, 0, 0, false, f.d, [], zeros16⟩ vd (.slice none 0 0)) ∧ Mod (fun _ => False) w w' := by
  have HB := FrB.new w f vd vr hv.t
  have e0 : (frC f vd vr)[0]? = some (.int .i64 f.k) := rfl
  have e1 : (frC f vd vr)[1]? = some (.int .u64 (f.id : Int)) := rfl
  have e2 : (frC f vd vr)[2]? = some (.int .u64 (f.a : Int)) := rfl
  have e3 : (frC f vd vr)[3]? = some (.int .u64 (f.b : Int)) := rfl
  have e4 : (frC f vd vr)[4]? = some (.int .u64 (f.c : Int)) := rfl
  have e5 : (frC f vd vr)[5]? = some (.bool f.fl) := rfl
  have e6 : (frC f vd vr)[6]? = some vd := rfl
  have e7 : (frC f vd vr)[7]? = some vr := rfl
  have HG : Hid (FrV w ⟨0, 0, 0, 0, 0, false, f.d, [], zeros16⟩ vd (.slice none 0 0)) := ⟨hv.d, Sl.nil _ _, rfl, by first | exact hv.dl | simp, by first | exact hv.rl | simp⟩
  obtain ⟨da, dc, hvd, _⟩ := byts_val hv.d
  obtain ⟨ra, rc, hvr, _⟩ := rg_val hv.r
  have hbu : Tryd.prog.built 27 [(6, vd)] = some (frC ⟨0, 0, 0, 0, 0, false, f.d, [], zeros16⟩ vd (.slice none 0 0)) := by
    rw [hvd]; kernel_rfl
  have HBU := Lib.hid hbu
  have HONE := Lib.hid (frC_one HG.out)
  have HSZ := Lib.hid (sizeFr ⟨0, 0, 0, 0, 0, false, f.d, [], zeros16⟩ vd (.slice none 0 0) HG.out.t)
  have HSS : Hid (frZ.size = (frC ⟨0, 0, 0, 0, 0, false, f.d, [], zeros16⟩ vd (.slice none 0 0)).size) := (frC_size ⟨0, 0, 0, 0, 0, false, f.d, [], zeros16⟩ vd (.slice none 0 0) HG.out.t).symm
  unfold frV
  clear HB hbu HG hv hvd hvr
  generalize frC ⟨0, 0, 0, 0, 0, false, f.d, [], zeros16⟩ vd (.slice none 0 0) = G at *
  generalize frC f vd vr = C at *
  go_enter Tryd.func46, Tryd.ntmps46
  go_wp2_with (first
    | ((with_reducible refine wpList_build_c ?_ 27 [(6, .tmp 4)] ?_ [(6, vd)] ?_ G HBU.out ?_); (· exact rfl); (· exact rfl); (· exact rfl))
    | ((with_reducible refine wpList_store_blk ?_ 27 (.tmp 2) (.tmp 5) ?_ (w.heap.size + 1) ?_ frZ G ?_ 27 (new2 _ _ _ _) HSZ.out HSS.out HONE.out ?_); (· exact rfl); (· exact rfl); (· exact rfl); (· exact rfl); intro w1 hB hM)
    | fail)
  have hl := blk_loadVar (P := Tryd.prog) hB Tryd.underlying27 rfl HSZ.out
  refine bodyPost_ret (v := .agg G) ?_ rfl ⟨rfl, (((Mod.refl (fun _ => False) w).alloc _).alloc _).trans' hM (fun i hi e => by omega)⟩
  exact results_cell Tryd.results46 _ rfl hl
set_option maxRecDepth 10000 in
theorem has9 {w : World} {f : Fr} {vd vr : Value} (hv : FrV w f vd vr) : Calls Tryd.prog 47 #[frV f vd vr] w fun e w' => e = .returned (frV ⟨0, 0, 0, 0, 0, false, [], [], zeros16⟩ (.slice none 0 0) (.slice none 0 0)) ∧ Mod (fun _ => False) w w' := by
  have HB := FrB.new w f vd vr hv.t
  have e0 : (frC f vd vr)[0]? = some (.int .i64 f.k) := rfl
  have e1 : (frC f vd vr)[1]? = some (.int .u64 (f.id : Int)) := rfl
  have e2 : (frC f vd vr)[2]? = some (.int .u64 (f.a : Int)) := rfl
  have e3 : (frC f vd vr)[3]? = some (.int .u64 (f.b : Int)) := rfl
  have e4 : (frC f vd vr)[4]? = some (.int .u64 (f.c : Int)) := rfl
  have e5 : (frC f vd vr)[5]? = some (.bool f.fl) := rfl
  have e6 : (frC f vd vr)[6]? = some vd := rfl
  have e7 : (frC f vd vr)[7]? = some vr := rfl
  have HG : Hid (FrV w ⟨0, 0, 0, 0, 0, false, [], [], zeros16⟩ (.slice none 0 0) (.slice none 0 0)) := ⟨Sl.nil _ _, Sl.nil _ _, rfl, by first | exact hv.dl | simp, by first | exact hv.rl | simp⟩
  obtain ⟨da, dc, hvd, _⟩ := byts_val hv.d
  obtain ⟨ra, rc, hvr, _⟩ := rg_val hv.r
  have hbu : Tryd.prog.built 27 [] = some (frC ⟨0, 0, 0, 0, 0, false, [], [], zeros16⟩ (.slice none 0 0) (.slice none 0 0)) := by
    kernel_rfl
  have HBU := Lib.hid hbu
  have HONE := Lib.hid (frC_one HG.out)
  have HSZ := Lib.hid (sizeFr ⟨0, 0, 0, 0, 0, false, [], [], zeros16⟩ (.slice none 0 0) (.slice none 0 0) HG.out.t)
  have HSS : Hid (frZ.size = (frC ⟨0, 0, 0, 0, 0, false, [], [], zeros16⟩ (.slice none 0 0) (.slice none 0 0)).size) := (frC_size ⟨0, 0, 0, 0, 0, false, [], [], zeros16⟩ (.slice none 0 0) (.slice none 0 0) HG.out.t).symm
  unfold frV
  clear HB hbu HG hv hvd hvr
  generalize frC ⟨0, 0, 0, 0, 0, false, [], [], zeros16⟩ (.slice none 0 0) (.slice none 0 0) = G at *
  generalize frC f vd vr = C at *
  go_enter Tryd.func47, Tryd.ntmps47
  go_wp2_with (first
    | ((with_reducible refine wpList_build_c ?_ 27 [] ?_ [] ?_ G HBU.out ?_); (· exact rfl); (· exact rfl); (· exact rfl))
    | ((with_reducible refine wpList_store_blk ?_ 27 (.tmp 2) (.tmp 3) ?_ (w.heap.size + 1) ?_ frZ G ?_ 27 (new2 _ _ _ _) HSZ.out HSS.out HONE.out ?_); (· exact rfl); (· exact rfl); (· exact rfl); (· exact rfl); intro w1 hB hM)
    | fail)
  have hl := blk_loadVar (P := Tryd.prog) hB Tryd.underlying27 rfl HSZ.out
  refine bodyPost_ret (v := .agg G) ?_ rfl ⟨rfl, (((Mod.refl (fun _ => False) w).alloc _).alloc _).trans' hM (fun i hi e => by omega)⟩
  exact results_cell Tryd.results47 _ rfl hl
set_option maxRecDepth 10000 in
theorem has18 {w : World} {f : Fr} {vd vr : Value} (hv : FrV w f vd vr) : Calls Tryd.prog 57 #[frV f vd vr] w fun e w' => e = .returned (frV ⟨0, 0, 0, f.b, 0, false, [], f.rs, zeros16⟩ (.slice none 0 0) vr) ∧ Mod (fun _ => False) w w' := by
  have HB := FrB.new w f vd vr hv.t
  have e0 : (frC f vd vr)[0]? = some (.int .i64 f.k) := rfl
  have e1 : (frC f vd vr)[1]? = some (.int .u64 (f.id : Int)) := rfl
  have e2 : (frC f vd vr)[2]? = some (.int .u64 (f.a : Int)) := rfl
  have e3 : (frC f vd vr)[3]? = some (.int .u64 (f.b : Int)) := rfl
  have e4 : (frC f vd vr)[4]? = some (.int .u64 (f.c : Int)) := rfl
  have e5 : (frC f vd vr)[5]? = some (.bool f.fl) := rfl
  have e6 : (frC f vd vr)[6]? = some vd := rfl
  have e7 : (frC f vd vr)[7]? = some vr := rfl
  have HG : Hid (FrV w ⟨0, 0, 0, f.b, 0, false, [], f.rs, zeros16⟩ (.slice none 0 0) vr) := ⟨Sl.nil _ _, hv.r, rfl, by first | exact hv.dl | simp, by first | exact hv.rl | simp⟩
  obtain ⟨da, dc, hvd, _⟩ := byts_val hv.d
  obtain ⟨ra, rc, hvr, _⟩ := rg_val hv.r
  have hbu : Tryd.prog.built 27 [(3, .int .u64 (f.b : Int)), (7, vr)] = some (frC ⟨0, 0, 0, f.b, 0, false, [], f.rs, zeros16⟩ (.slice none 0 0) vr) := by
    rw [hvr]; kernel_rfl
  have HBU := Lib.hid hbu
  have HONE := Lib.hid (frC_one HG.out)
  have HSZ := Lib.hid (sizeFr ⟨0, 0, 0, f.b, 0, false, [], f.rs, zeros16⟩ (.slice none 0 0) vr HG.out.t)
  have HSS : Hid (frZ.size = (frC ⟨0, 0, 0, f.b, 0, false, [], f.rs, zeros16⟩ (.slice none 0 0) vr).size) := (frC_size ⟨0, 0, 0, f.b, 0, false, [], f.rs, zeros16⟩ (.slice none 0 0) vr HG.out.t).symm
  unfold frV
  clear HB hbu HG hv hvd hvr
  generalize frC ⟨0, 0, 0, f.b, 0, false, [], f.rs, zeros16⟩ (.slice none 0 0) vr = G at *
  generalize frC f vd vr = C at *
  go_enter Tryd.func57, Tryd.ntmps57
  go_wp2_with (first
    | ((with_reducible refine wpList_build_c ?_ 27 [(3, .tmp 4), (7, .tmp 6)] ?_ [(3, .int .u64 (f.b : Int)), (7, vr)] ?_ G HBU.out ?_); (· exact rfl); (· exact rfl); (· exact rfl))
    | ((with_reducible refine wpList_store_blk ?_ 27 (.tmp 2) (.tmp 7) ?_ (w.heap.size + 1) ?_ frZ G ?_ 27 (new2 _ _ _ _) HSZ.out HSS.out HONE.out ?_); (· exact rfl); (· exact rfl); (· exact rfl); (· exact rfl); intro w1 hB hM)
    | fail)
  have hl := blk_loadVar (P := Tryd.prog) hB Tryd.underlying27 rfl HSZ.out
  refine bodyPost_ret (v := .agg G) ?_ rfl ⟨rfl, (((Mod.refl (fun _ => False) w).alloc _).alloc _).trans' hM (fun i hi e => by omega)⟩
  exact results_cell Tryd.results57 _ rfl hl
set_option maxRecDepth 10000 in
theorem has19 {w : World} {f : Fr} {vd vr : Value} (hv : FrV w f vd vr) : Calls Tryd.prog 61 #[frV f vd vr] w fun e w' => e = .returned (frV ⟨0, f.id, f.a, 0, f.c, false, [], [], zeros16⟩ (.slice none 0 0) (.slice none 0 0)) ∧ Mod (fun _ => False) w w' := by
  have HB := FrB.new w f vd vr hv.t
  have e0 : (frC f vd vr)[0]? = some (.int .i64 f.k) := rfl
  have e1 : (frC f vd vr)[1]? = some (.int .u64 (f.id : Int)) := rfl
  have e2 : (frC f vd vr)[2]? = some (.int .u64 (f.a : Int)) := rfl
  have e3 : (frC f vd vr)[3]? = some (.int .u64 (f.b : Int)) := rfl
  have e4 : (frC f vd vr)[4]? = some (.int .u64 (f.c : Int)) := rfl
  have e5 : (frC f vd vr)[5]? = some (.bool f.fl) := rfl
  have e6 : (frC f vd vr)[6]? = some vd := rfl
  have e7 : (frC f vd vr)[7]? = some vr := rfl
  have HG : Hid (FrV w ⟨0, f.id, f.a, 0, f.c, false, [], [], zeros16⟩ (.slice none 0 0) (.slice none 0 0)) := ⟨Sl.nil _ _, Sl.nil _ _, rfl, by first | exact hv.dl | simp, by first | exact hv.rl | simp⟩
  obtain ⟨da, dc, hvd, _⟩ := byts_val hv.d
  obtain ⟨ra, rc, hvr, _⟩ := rg_val hv.r
  have hbu : Tryd.prog.built 27 [(1, .int .u64 (f.id : Int)), (4, .int .u64 (f.c : Int)), (2, .int .u64 (f.a : Int))] = some (frC ⟨0, f.id, f.a, 0, f.c, false, [], [], zeros16⟩ (.slice none 0 0) (.slice none 0 0)) := by
    kernel_rfl
  have HBU := Lib.hid hbu
  have HONE := Lib.hid (frC_one HG.out)
  have HSZ := Lib.hid (sizeFr ⟨0, f.id, f.a, 0, f.c, false, [], [], zeros16⟩ (.slice none 0 0) (.slice none 0 0) HG.out.t)
  have HSS : Hid (frZ.size = (frC ⟨0, f.id, f.a, 0, f.c, false, [], [], zeros16⟩ (.slice none 0 0) (.slice none 0 0)).size) := (frC_size ⟨0, f.id, f.a, 0, f.c, false, [], [], zeros16⟩ (.slice none 0 0) (.slice none 0 0) HG.out.t).symm
  unfold frV
  clear HB hbu HG hv hvd hvr
  generalize frC ⟨0, f.id, f.a, 0, f.c, false, [], [], zeros16⟩ (.slice none 0 0) (.slice none 0 0) = G at *
  generalize frC f vd vr = C at *
  go_enter Tryd.func61, Tryd.ntmps61
  go_wp2_with (first
    | ((with_reducible refine wpList_build_c ?_ 27 [(1, .tmp 4), (4, .tmp 6), (2, .tmp 8)] ?_ [(1, .int .u64 (f.id : Int)), (4, .int .u64 (f.c : Int)), (2, .int .u64 (f.a : Int))] ?_ G HBU.out ?_); (· exact rfl); (· exact rfl); (· exact rfl))
    | ((with_reducible refine wpList_store_blk ?_ 27 (.tmp 2) (.tmp 9) ?_ (w.heap.size + 1) ?_ frZ G ?_ 27 (new2 _ _ _ _) HSZ.out HSS.out HONE.out ?_); (· exact rfl); (· exact rfl); (· exact rfl); (· exact rfl); intro w1 hB hM)
    | fail)
  have hl := blk_loadVar (P := Tryd.prog) hB Tryd.underlying27 rfl HSZ.out
  refine bodyPost_ret (v := .agg G) ?_ rfl ⟨rfl, (((Mod.refl (fun _ => False) w).alloc _).alloc _).trans' hM (fun i hi e => by omega)⟩
  exact results_cell Tryd.results61 _ rfl hl
set_option maxRecDepth 10000 in
theorem has22 {w : World} {f : Fr} {vd vr : Value} (hv : FrV w f vd vr) : Calls Tryd.prog 64 #[frV f vd vr] w fun e w' => e = .returned (frV ⟨0, f.id, 0, 0, f.c, false, [], [], zeros16⟩ (.slice none 0 0) (.slice none 0 0)) ∧ Mod (fun _ => False) w w' := by
  have HB := FrB.new w f vd vr hv.t
  have e0 : (frC f vd vr)[0]? = some (.int .i64 f.k) := rfl
  have e1 : (frC f vd vr)[1]? = some (.int .u64 (f.id : Int)) := rfl
  have e2 : (frC f vd vr)[2]? = some (.int .u64 (f.a : Int)) := rfl
  have e3 : (frC f vd vr)[3]? = some (.int .u64 (f.b : Int)) := rfl
  have e4 : (frC f vd vr)[4]? = some (.int .u64 (f.c : Int)) := rfl
  have e5 : (frC f vd vr)[5]? = some (.bool f.fl) := rfl
  have e6 : (frC f vd vr)[6]? = some vd := rfl
  have e7 : (frC f vd vr)[7]? = some vr := rfl
  have HG : Hid (FrV w ⟨0, f.id, 0, 0, f.c, false, [], [], zeros16⟩ (.slice none 0 0) (.slice none 0 0)) := ⟨Sl.nil _ _, Sl.nil _ _, rfl, by first | exact hv.dl | simp, by first | exact hv.rl | simp⟩
  obtain ⟨da, dc, hvd, _⟩ := byts_val hv.d
  obtain ⟨ra, rc, hvr, _⟩ := rg_val hv.r
  have hbu : Tryd.prog.built 27 [(1, .int .u64 (f.id : Int)), (4, .int .u64 (f.c : Int))] = some (frC ⟨0, f.id, 0, 0, f.c, false, [], [], zeros16⟩ (.slice none 0 0) (.slice none 0 0)) := by
    kernel_rfl
  have HBU := Lib.hid hbu
  have HONE := Lib.hid (frC_one HG.out)
  have HSZ := Lib.hid (sizeFr ⟨0, f.id, 0, 0, f.c, false, [], [], zeros16⟩ (.slice none 0 0) (.slice none 0 0) HG.out.t)
  have HSS : Hid (frZ.size = (frC ⟨0, f.id, 0, 0, f.c, false, [], [], zeros16⟩ (.slice none 0 0) (.slice none 0 0)).size) := (frC_size ⟨0, f.id, 0, 0, f.c, false, [], [], zeros16⟩ (.slice none 0 0) (.slice none 0 0) HG.out.t).symm
  unfold frV
  clear HB hbu HG hv hvd hvr
  generalize frC ⟨0, f.id, 0, 0, f.c, false, [], [], zeros16⟩ (.slice none 0 0) (.slice none 0 0) = G at *
  generalize frC f vd vr = C at *
  go_enter Tryd.func64, Tryd.ntmps64
  go_wp2_with (first
    | ((with_reducible refine wpList_build_c ?_ 27 [(1, .tmp 4), (4, .tmp 6)] ?_ [(1, .int .u64 (f.id : Int)), (4, .int .u64 (f.c : Int))] ?_ G HBU.out ?_); (· exact rfl); (· exact rfl); (· exact rfl))
    | ((with_reducible refine wpList_store_blk ?_ 27 (.tmp 2) (.tmp 7) ?_ (w.heap.size + 1) ?_ frZ G ?_ 27 (new2 _ _ _ _) HSZ.out HSS.out HONE.out ?_); (· exact rfl); (· exact rfl); (· exact rfl); (· exact rfl); intro w1 hB hM)
    | fail)
  have hl := blk_loadVar (P := Tryd.prog) hB Tryd.underlying27 rfl HSZ.out
  refine bodyPost_ret (v := .agg G) ?_ rfl ⟨rfl, (((Mod.refl (fun _ => False) w).alloc _).alloc _).trans' hM (fun i hi e => by omega)⟩
  exact results_cell Tryd.results64 _ rfl hl
set_option maxRecDepth 10000 in
theorem has25 {w : World} {f : Fr} {vd vr : Value} (hv : FrV w f vd vr) : Calls Tryd.prog 67 #[frV f vd vr] w fun e w' => e = .returned (frV ⟨0, 0, f.a, 0, 0, false, f.d, [], zeros16⟩ vd (.slice none 0 0)) ∧ Mod (fun _ => False) w w' := by
  have HB := FrB.new w f vd vr hv.t
  have e0 : (frC f vd vr)[0]? = some (.int .i64 f.k) := rfl
  have e1 : (frC f vd vr)[1]? = some (.int .u64 (f.id : Int)) := rfl
  have e2 : (frC f vd vr)[2]? = some (.int .u64 (f.a : Int)) := rfl
  have e3 : (frC f vd vr)[3]? = some (.int .u64 (f.b : Int)) := rfl
  have e4 : (frC f vd vr)[4]? = some (.int .u64 (f.c : Int)) := rfl
  have e5 : (frC f vd vr)[5]? = some (.bool f.fl) := rfl
  have e6 : (frC f vd vr)[6]? = some vd := rfl
  have e7 : (frC f vd vr)[7]? = some vr := rfl
  have HG : Hid (FrV w ⟨0, 0, f.a, 0, 0, false, f.d, [], zeros16⟩ vd (.slice none 0 0)) := ⟨hv.d, Sl.nil _ _, rfl, by first | exact hv.dl | simp, by first | exact hv.rl | simp⟩
  obtain ⟨da, dc, hvd, _⟩ := byts_val hv.d
  obtain ⟨ra, rc, hvr, _⟩ := rg_val hv.r
  have hbu : Tryd.prog.built 27 [(2, .int .u64 (f.a : Int)), (6, vd)] = some (frC ⟨0, 0, f.a, 0, 0, false, f.d, [], zeros16⟩ vd (.slice none 0 0)) := by
    rw [hvd]; kernel_rfl
  have HBU := Lib.hid hbu
  have HONE := Lib.hid (frC_one HG.out)
  have HSZ := Lib.hid (sizeFr ⟨0, 0, f.a, 0, 0, false, f.d, [], zeros16⟩ vd (.slice none 0 0) HG.out.t)
  have HSS : Hid (frZ.size = (frC ⟨0, 0, f.a, 0, 0, false, f.d, [], zeros16⟩ vd (.slice none 0 0)).size) := (frC_size ⟨0, 0, f.a, 0, 0, false, f.d, [], zeros16⟩ vd (.slice none 0 0) HG.out.t).symm
  unfold frV
  clear HB hbu HG hv hvd hvr
  generalize frC ⟨0, 0, f.a, 0, 0, false, f.d, [], zeros16⟩ vd (.slice none 0 0) = G at *
  generalize frC f vd vr = C at *
  go_enter Tryd.func67, Tryd.ntmps67
  go_wp2_with (first
    | ((with_reducible refine wpList_build_c ?_ 27 [(2, .tmp 4), (6, .tmp 6)] ?_ [(2, .int .u64 (f.a : Int)), (6, vd)] ?_ G HBU.out ?_); (· exact rfl); (· exact rfl); (· exact rfl))
    | ((with_reducible refine wpList_store_blk ?_ 27 (.tmp 2) (.tmp 7) ?_ (w.heap.size + 1) ?_ frZ G ?_ 27 (new2 _ _ _ _) HSZ.out HSS.out HONE.out ?_); (· exact rfl); (· exact rfl); (· exact rfl); (· exact rfl); intro w1 hB hM)
    | fail)
  have hl := blk_loadVar (P := Tryd.prog) hB Tryd.underlying27 rfl HSZ.out
  refine bodyPost_ret (v := .agg G) ?_ rfl ⟨rfl, (((Mod.refl (fun _ => False) w).alloc _).alloc _).trans' hM (fun i hi e => by omega)⟩
  exact results_cell Tryd.results67 _ rfl hl
set_option maxRecDepth 10000 in
theorem has31 {w : World} {f : Fr} {vd vr : Value} (hv : FrV w f vd vr) : Calls Tryd.prog 75 #[frV f vd vr] w fun e w' => e = .returned (frV ⟨0, f.id, f.a, 0, 0, f.fl, f.d, [], zeros16⟩ vd (.slice none 0 0)) ∧ Mod (fun _ => False) w w' := by
  have HB := FrB.new w f vd vr hv.t
  have e0 : (frC f vd vr)[0]? = some (.int .i64 f.k) := rfl
  have e1 : (frC f vd vr)[1]? = some (.int .u64 (f.id : Int)) := rfl
  have e2 : (frC f vd vr)[2]? = some (.int .u64 (f.a : Int)) := rfl
  have e3 : (frC f vd vr)[3]? = some (.int .u64 (f.b : Int)) := rfl
  have e4 : (frC f vd vr)[4]? = some (.int .u64 (f.c : Int)) := rfl
  have e5 : (frC f vd vr)[5]? = some (.bool f.fl) := rfl
  have e6 : (frC f vd vr)[6]? = some vd := rfl
  have e7 : (frC f vd vr)[7]? = some vr := rfl
  have HG : Hid (FrV w ⟨0, f.id, f.a, 0, 0, f.fl, f.d, [], zeros16⟩ vd (.slice none 0 0)) := ⟨hv.d, Sl.nil _ _, rfl, by first | exact hv.dl | simp, by first | exact hv.rl | simp⟩
  obtain ⟨da, dc, hvd, _⟩ := byts_val hv.d
  obtain ⟨ra, rc, hvr, _⟩ := rg_val hv.r
  have hbu : Tryd.prog.built 27 [(1, .int .u64 (f.id : Int)), (2, .int .u64 (f.a : Int)), (5, .bool f.fl), (6, vd)] = some (frC ⟨0, f.id, f.a, 0, 0, f.fl, f.d, [], zeros16⟩ vd (.slice none 0 0)) := by
    rw [hvd]; kernel_rfl
  have HBU := Lib.hid hbu
  have HONE := Lib.hid (frC_one HG.out)
  have HSZ := Lib.hid (sizeFr ⟨0, f.id, f.a, 0, 0, f.fl, f.d, [], zeros16⟩ vd (.slice none 0 0) HG.out.t)
  have HSS : Hid (frZ.size = (frC ⟨0, f.id, f.a, 0, 0, f.fl, f.d, [], zeros16⟩ vd (.slice none 0 0)).size) := (frC_size ⟨0, f.id, f.a, 0, 0, f.fl, f.d, [], zeros16⟩ vd (.slice none 0 0) HG.out.t).symm
  unfold frV
  clear HB hbu HG hv hvd hvr
  generalize frC ⟨0, f.id, f.a, 0, 0, f.fl, f.d, [], zeros16⟩ vd (.slice none 0 0) = G at *
  generalize frC f vd vr = C at *
  go_enter Tryd.func75, Tryd.ntmps75
  go_wp2_with (first
    | ((with_reducible refine wpList_build_c ?_ 27 [(1, .tmp 4), (2, .tmp 6), (5, .tmp 8), (6, .tmp 10)] ?_ [(1, .int .u64 (f.id : Int)), (2, .int .u64 (f.a : Int)), (5, .bool f.fl), (6, vd)] ?_ G HBU.out ?_); (· exact rfl); (· exact rfl); (· exact rfl))
    | ((with_reducible refine wpList_store_blk ?_ 27 (.tmp 2) (.tmp 11) ?_ (w.heap.size + 1) ?_ frZ G ?_ 27 (new2 _ _ _ _) HSZ.out HSS.out HONE.out ?_); (· exact rfl); (· exact rfl); (· exact rfl); (· exact rfl); intro w1 hB hM)
    | fail)
  have hl := blk_loadVar (P := Tryd.prog) hB Tryd.underlying27 rfl HSZ.out
  refine bodyPost_ret (v := .agg G) ?_ rfl ⟨rfl, (((Mod.refl (fun _ => False) w).alloc _).alloc _).trans' hM (fun i hi e => by omega)⟩
  exact results_cell Tryd.results75 _ rfl hl
set_option maxRecDepth 10000 in
theorem has32 {w : World} {f : Fr} {vd vr : Value} (hv : FrV w f vd vr) : Calls Tryd.prog 77 #[frV f vd vr] w fun e w' => e = .returned (frV ⟨0, f.id, f.a, 0, 0, false, f.d, [], f.t⟩ vd (.slice none 0 0)) ∧ Mod (fun _ => False) w w' := by
  have HB := FrB.new w f vd vr hv.t
  have e0 : (frC f vd vr)[0]? = some (.int .i64 f.k) := rfl
  have e1 : (frC f vd vr)[1]? = some (.int .u64 (f.id : Int)) := rfl
  have e2 : (frC f vd vr)[2]? = some (.int .u64 (f.a : Int)) := rfl
  have e3 : (frC f vd vr)[3]? = some (.int .u64 (f.b : Int)) := rfl
  have e4 : (frC f vd vr)[4]? = some (.int .u64 (f.c : Int)) := rfl
  have e5 : (frC f vd vr)[5]? = some (.bool f.fl) := rfl
  have e6 : (frC f vd vr)[6]? = some vd := rfl
  have e7 : (frC f vd vr)[7]? = some vr := rfl
  have HG : Hid (FrV w ⟨0, f.id, f.a, 0, 0, false, f.d, [], f.t⟩ vd (.slice none 0 0)) := ⟨hv.d, Sl.nil _ _, hv.t, by first | exact hv.dl | simp, by first | exact hv.rl | simp⟩
  obtain ⟨da, dc, hvd, _⟩ := byts_val hv.d
  obtain ⟨ra, rc, hvr, _⟩ := rg_val hv.r
  have LT : Hid (∀ Z, (Instr.loadAt 25 (.pointer (some ⟨w.heap.size, 8, none⟩))).run Tryd.prog ((w.alloc (.cells (frC f vd vr) 27)).alloc (.cells Z 27)) = .ok (.agg (f.t.map bv).toArray) ((w.alloc (.cells (frC f vd vr) 27)).alloc (.cells Z 27))) := fun Z => (HB.kept ((Mod.refl (fun _ => False) _).alloc _)).loadTok
  have hbu : Tryd.prog.built 27 [(1, .int .u64 (f.id : Int)), (2, .int .u64 (f.a : Int)), (6, vd), (8, .agg (f.t.map bv).toArray)] = some (frC ⟨0, f.id, f.a, 0, 0, false, f.d, [], f.t⟩ vd (.slice none 0 0)) := by
    obtain ⟨x0, x1, x2, x3, x4, x5, x6, x7, x8, x9, xa, xb, xc, xd, xe, xf, ht⟩ := list16 _ hv.t
    simp only [ht]
    rw [hvd]; kernel_rfl
  have HBU := Lib.hid hbu
  have HONE := Lib.hid (frC_one HG.out)
  have HSZ := Lib.hid (sizeFr ⟨0, f.id, f.a, 0, 0, false, f.d, [], f.t⟩ vd (.slice none 0 0) HG.out.t)
  have HSS : Hid (frZ.size = (frC ⟨0, f.id, f.a, 0, 0, false, f.d, [], f.t⟩ vd (.slice none 0 0)).size) := (frC_size ⟨0, f.id, f.a, 0, 0, false, f.d, [], f.t⟩ vd (.slice none 0 0) HG.out.t).symm
  unfold frV
  clear HB hbu HG hv hvd hvr
  generalize frC ⟨0, f.id, f.a, 0, 0, false, f.d, [], f.t⟩ vd (.slice none 0 0) = G at *
  generalize frC f vd vr = C at *
  generalize (f.t.map bv).toArray = K at *
  go_enter Tryd.func77, Tryd.ntmps77
  go_wp2_with (first
    | ((with_reducible refine wpList_load_v 25 (.tmp 9) ?_ ?_ (.pointer (some ⟨w.heap.size, 8, none⟩)) (.agg K) ?_ (LT.out _) ?_); (· exact rfl); (· exact rfl); (· exact rfl))
    | ((with_reducible refine wpList_build_c ?_ 27 [(1, .tmp 4), (2, .tmp 6), (6, .tmp 8), (8, .tmp 10)] ?_ [(1, .int .u64 (f.id : Int)), (2, .int .u64 (f.a : Int)), (6, vd), (8, .agg K)] ?_ G HBU.out ?_); (· exact rfl); (· exact rfl); (· exact rfl))
    | ((with_reducible refine wpList_store_blk ?_ 27 (.tmp 2) (.tmp 11) ?_ (w.heap.size + 1) ?_ frZ G ?_ 27 (new2 _ _ _ _) HSZ.out HSS.out HONE.out ?_); (· exact rfl); (· exact rfl); (· exact rfl); (· exact rfl); intro w1 hB hM)
    | fail)
  have hl := blk_loadVar (P := Tryd.prog) hB Tryd.underlying27 rfl HSZ.out
  refine bodyPost_ret (v := .agg G) ?_ rfl ⟨rfl, (((Mod.refl (fun _ => False) w).alloc _).alloc _).trans' hM (fun i hi e => by omega)⟩
  exact results_cell Tryd.results77 _ rfl hl
set_option maxRecDepth 10000 in
theorem has36 {w : World} {f : Fr} {vd vr : Value} (hv : FrV w f vd vr) : Calls Tryd.prog 83 #[frV f vd vr] w fun e w' => e = .returned (frV ⟨0, f.id, 0, 0, 0, false, [], [], zeros16⟩ (.slice none 0 0) (.slice none 0 0)) ∧ Mod (fun _ => False) w w' := by
  have HB := FrB.new w f vd vr hv.t
  have e0 : (frC f vd vr)[0]? = some (.int .i64 f.k) := rfl
  have e1 : (frC f vd vr)[1]? = some (.int .u64 (f.id : Int)) := rfl
  have e2 : (frC f vd vr)[2]? = some (.int .u64 (f.a : Int)) := rfl
  have e3 : (frC f vd vr)[3]? = some (.int .u64 (f.b : Int)) := rfl
  have e4 : (frC f vd vr)[4]? = some (.int .u64 (f.c : Int)) := rfl
  have e5 : (frC f vd vr)[5]? = some (.bool f.fl) := rfl
  have e6 : (frC f vd vr)[6]? = some vd := rfl
  have e7 : (frC f vd vr)[7]? = some vr := rfl
  have HG : Hid (FrV w ⟨0, f.id, 0, 0, 0, false, [], [], zeros16⟩ (.slice none 0 0) (.slice none 0 0)) := ⟨Sl.nil _ _, Sl.nil _ _, rfl, by first | exact hv.dl | simp, by first | exact hv.rl | simp⟩
  obtain ⟨da, dc, hvd, _⟩ := byts_val hv.d
  obtain ⟨ra, rc, hvr, _⟩ := rg_val hv.r
  have hbu : Tryd.prog.built 27 [(1, .int .u64 (f.id : Int))] = some (frC ⟨0, f.id, 0, 0, 0, false, [], [], zeros16⟩ (.slice none 0 0) (.slice none 0 0)) := by
    kernel_rfl
  have HBU := Lib.hid hbu
  have HONE := Lib.hid (frC_one HG.out)
  have HSZ := Lib.hid (sizeFr ⟨0, f.id, 0, 0, 0, false, [], [], zeros16⟩ (.slice none 0 0) (.slice none 0 0) HG.out.t)
  have HSS : Hid (frZ.size = (frC ⟨0, f.id, 0, 0, 0, false, [], [], zeros16⟩ (.slice none 0 0) (.slice none 0 0)).size) := (frC_size ⟨0, f.id, 0, 0, 0, false, [], [], zeros16⟩ (.slice none 0 0) (.slice none 0 0) HG.out.t).symm
  unfold frV
  clear HB hbu HG hv hvd hvr
  generalize frC ⟨0, f.id, 0, 0, 0, false, [], [], zeros16⟩ (.slice none 0 0) (.slice none 0 0) = G at *
  generalize frC f vd vr = C at *
  go_enter Tryd.func83, Tryd.ntmps83
  go_wp2_with (first
    | ((with_reducible refine wpList_build_c ?_ 27 [(1, .tmp 4)] ?_ [(1, .int .u64 (f.id : Int))] ?_ G HBU.out ?_); (· exact rfl); (· exact rfl); (· exact rfl))
    | ((with_reducible refine wpList_store_blk ?_ 27 (.tmp 2) (.tmp 5) ?_ (w.heap.size + 1) ?_ frZ G ?_ 27 (new2 _ _ _ _) HSZ.out HSS.out HONE.out ?_); (· exact rfl); (· exact rfl); (· exact rfl); (· exact rfl); intro w1 hB hM)
    | fail)
  have hl := blk_loadVar (P := Tryd.prog) hB Tryd.underlying27 rfl HSZ.out
  refine bodyPost_ret (v := .agg G) ?_ rfl ⟨rfl, (((Mod.refl (fun _ => False) w).alloc _).alloc _).trans' hM (fun i hi e => by omega)⟩
  exact results_cell Tryd.results83 _ rfl hl
set_option maxRecDepth 10000 in
theorem has38 {w : World} {f : Fr} {vd vr : Value} (hv : FrV w f vd vr) : Calls Tryd.prog 85 #[frV f vd vr] w fun e w' => e = .returned (frV ⟨0, 0, f.a, 0, f.c, f.fl, f.d, [], zeros16⟩ vd (.slice none 0 0)) ∧ Mod (fun _ => False) w w' := by
  have HB := FrB.new w f vd vr hv.t
  have e0 : (frC f vd vr)[0]? = some (.int .i64 f.k) := rfl
  have e1 : (frC f vd vr)[1]? = some (.int .u64 (f.id : Int)) := rfl
  have e2 : (frC f vd vr)[2]? = some (.int .u64 (f.a : Int)) := rfl
  have e3 : (frC f vd vr)[3]? = some (.int .u64 (f.b : Int)) := rfl
  have e4 : (frC f vd vr)[4]? = some (.int .u64 (f.c : Int)) := rfl
  have e5 : (frC f vd vr)[5]? = some (.bool f.fl) := rfl
  have e6 : (frC f vd vr)[6]? = some vd := rfl
  have e7 : (frC f vd vr)[7]? = some vr := rfl
  have HG : Hid (FrV w ⟨0, 0, f.a, 0, f.c, f.fl, f.d, [], zeros16⟩ vd (.slice none 0 0)) := ⟨hv.d, Sl.nil _ _, rfl, by first | exact hv.dl | simp, by first | exact hv.rl | simp⟩
  obtain ⟨da, dc, hvd, _⟩ := byts_val hv.d
  obtain ⟨ra, rc, hvr, _⟩ := rg_val hv.r
  have hbu : Tryd.prog.built 27 [(4, .int .u64 (f.c : Int)), (2, .int .u64 (f.a : Int)), (5, .bool f.fl), (6, vd)] = some (frC ⟨0, 0, f.a, 0, f.c, f.fl, f.d, [], zeros16⟩ vd (.slice none 0 0)) := by
    rw [hvd]; kernel_rfl
  have HBU := Lib.hid hbu
  have HONE := Lib.hid (frC_one HG.out)
  have HSZ := Lib.hid (sizeFr ⟨0, 0, f.a, 0, f.c, f.fl, f.d, [], zeros16⟩ vd (.slice none 0 0) HG.out.t)
  have HSS : Hid (frZ.size = (frC ⟨0, 0, f.a, 0, f.c, f.fl, f.d, [], zeros16⟩ vd (.slice none 0 0)).size) := (frC_size ⟨0, 0, f.a, 0, f.c, f.fl, f.d, [], zeros16⟩ vd (.slice none 0 0) HG.out.t).symm
  unfold frV
  clear HB hbu HG hv hvd hvr
  generalize frC ⟨0, 0, f.a, 0, f.c, f.fl, f.d, [], zeros16⟩ vd (.slice none 0 0) = G at *
  generalize frC f vd vr = C at *
  go_enter Tryd.func85, Tryd.ntmps85
  go_wp2_with (first
    | ((with_reducible refine wpList_build_c ?_ 27 [(4, .tmp 4), (2, .tmp 6), (5, .tmp 8), (6, .tmp 10)] ?_ [(4, .int .u64 (f.c : Int)), (2, .int .u64 (f.a : Int)), (5, .bool f.fl), (6, vd)] ?_ G HBU.out ?_); (· exact rfl); (· exact rfl); (· exact rfl))
    | ((with_reducible refine wpList_store_blk ?_ 27 (.tmp 2) (.tmp 11) ?_ (w.heap.size + 1) ?_ frZ G ?_ 27 (new2 _ _ _ _) HSZ.out HSS.out HONE.out ?_); (· exact rfl); (· exact rfl); (· exact rfl); (· exact rfl); intro w1 hB hM)
    | fail)
  have hl := blk_loadVar (P := Tryd.prog) hB Tryd.underlying27 rfl HSZ.out
  refine bodyPost_ret (v := .agg G) ?_ rfl ⟨rfl, (((Mod.refl (fun _ => False) w).alloc _).alloc _).trans' hM (fun i hi e => by omega)⟩
  exact results_cell Tryd.results85 _ rfl hl
end Go.Proofs.YteegonadodmeeaaDoor
