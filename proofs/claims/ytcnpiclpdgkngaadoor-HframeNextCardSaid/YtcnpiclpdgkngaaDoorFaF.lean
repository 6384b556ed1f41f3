/- The kinds: the map, and its functions. -/
import Derived.Test.YtcnpiclpdgkngaaDoorFaE
import Derived.Test.YtcnpiclpdgkngaaDoorVMap
namespace Go.Proofs.YtcnpiclpdgkngaaDoor
open Go.RowKit

def fnV (n : Nat) : Value := .func (.func n) #[] #[]
def pairV (a b : Nat) : Value := .agg #[fnV a, fnV b]
/-- The kinds' functions, by kind. -/
def kindsF (y : Int) : Option Value :=
  if y = 4 then some (pairV 53 54)
  else if y = 13 then some (pairV 51 52)
  else if y = 7 then some (pairV 51 52)
  else if y = 3 then some (pairV 51 52)
  else if y = 1 then some (pairV 49 50)
  else if y = 0 then some (pairV 49 50) else none
theorem size55 (a b : Value) : (Tryd.prog.info? 55).map (·.size) = some (#[a, b] : Array Value).size := by show _ = some 2; kernel_rfl
theorem okKey_small {z : Int} (h0 : 0 ≤ z) (h1 : z ≤ 100) : okKey z := by
  have e0 : IntKind.i64.min = -9223372036854775808 := by decide
  have e1 : IntKind.i64.max = 9223372036854775807 := by decide
  unfold okKey
  simp only [Lit.wf, e0, e1, Bool.and_eq_true, decide_eq_true_eq]
  omega

theorem kinds_blk {w x1 x2 : World} {C D : Array Value} (h : Mod (fun _ => False) x1 x2) (h1 : Blk x1 w.heap.size C 55) (h2 : Blk x2 x1.heap.size D 55) :
    ∀ X, Mod (fun k => k = x2.heap.size) (x2.alloc (.map #[] 0)) X → Blk X w.heap.size C 55 ∧ Blk X x1.heap.size D 55 := fun X hX => by
  have h1' := h.blk h1 (fun h => h)
  have l1 := h1'.lt
  have l2 := h2.lt
  exact ⟨hX.blk (h1'.alloc _) (by omega), hX.blk (h2.alloc _) (by omega)⟩
set_option maxHeartbeats 4000000 in
set_option maxRecDepth 10000 in
theorem kinds_any (w : World) : Calls Tryd.prog 27 #[] w fun e w' => ∃ mb, e = .returned (.map (some mb)) ∧ VMap w' mb 6 kindsF ∧ Mod (fun _ => False) w w' := by
  have hmm := @run_makeMap Tryd.prog
  go_enter Tryd.func27, Tryd.ntmps27
  go_wp2_with (first
    | ((with_reducible refine wpList_store_blk ?_ 55 (.tmp 1) (.tmp 3) ?_ w.heap.size ?_ #[.nilFunc, .nilFunc] #[fnV 49, fnV 50] ?_ 55 (Blk.new _ _ _) (size55 _ _) ?_ ?_ ?_); (· exact rfl); (· exact rfl); (· exact rfl); (· exact rfl); (· exact rfl); (· intro v hv; simp at hv; rcases hv with rfl | rfl <;> rfl); intro x1 hB1 hM1; have HM1 := Lib.hid (((Mod.refl (fun _ => False) w).alloc _).trans' hM1 (fun i hi e => by omega)); have HB1 := Lib.hid hB1; clear hB1 hM1)
    | ((with_reducible refine wpList_store_blk ?_ 55 (.tmp 2) (.tmp 4) ?_ x1.heap.size ?_ #[.nilFunc, .nilFunc] #[fnV 51, fnV 52] ?_ 55 (Blk.new _ _ _) (size55 _ _) ?_ ?_ ?_); (· exact rfl); (· exact rfl); (· exact rfl); (· exact rfl); (· exact rfl); (· intro v hv; simp at hv; rcases hv with rfl | rfl <;> rfl); intro x2 hB2 hM2; have HM2 := Lib.hid (((Mod.refl (fun _ => False) x1).alloc _).trans' hM2 (fun i hi e => by omega)); have HBB := Lib.hid (kinds_blk HM2.out HB1.out hB2); have HV := Lib.hid (VMap.made x2); have HZ : Hid (Mod (fun k => k = x2.heap.size) (x2.alloc (.map #[] 0)) (x2.alloc (.map #[] 0))) := Mod.refl _ _; clear hB2 hM2)
    | ((with_reducible refine wpList_load_blk ?_ 55 (.tmp 1) ?_ w.heap.size ?_ #[fnV 49, fnV 50] 55 _ (HBB.out _ HZ.out).1 Tryd.underlying55 ?_ (size55 _ _) ?_); (· exact rfl); (· exact rfl); (· exact rfl); (· exact rfl))
    | ((with_reducible refine wpList_load_blk ?_ 55 (.tmp 2) ?_ x1.heap.size ?_ #[fnV 51, fnV 52] 55 _ (HBB.out _ HZ.out).2 Tryd.underlying55 ?_ (size55 _ _) ?_); (· exact rfl); (· exact rfl); (· exact rfl); (· exact rfl))
    | ((with_reducible refine wpList_insert_v ?_ (.tmp 5) (.const (.int .i64 0)) (.tmp 6) ?_ Tryd.underlying56 ?_ HV.out (by decide) ?_ (okKey_small (z := 0) (by decide) (by decide)) (val := .agg #[fnV 49, fnV 50]) ?_ ?_); (· exact rfl); (· exact rfl); (· exact rfl); (· exact rfl); (· exact rfl); intro x3 hV hM; have hZ2 := HZ.out.trans hM; clear HZ HV hM; have HV := Lib.hid hV; have HZ := Lib.hid hZ2; clear hV hZ2)
    | ((with_reducible refine wpList_insert_v ?_ (.tmp 5) (.const (.int .i64 1)) (.tmp 7) ?_ Tryd.underlying56 ?_ HV.out (by decide) ?_ (okKey_small (z := 1) (by decide) (by decide)) (val := .agg #[fnV 49, fnV 50]) ?_ ?_); (· exact rfl); (· exact rfl); (· exact rfl); (· exact rfl); (· exact rfl); intro x3 hV hM; have hZ2 := HZ.out.trans hM; clear HZ HV hM; have HV := Lib.hid hV; have HZ := Lib.hid hZ2; clear hV hZ2)
    | ((with_reducible refine wpList_insert_v ?_ (.tmp 5) (.const (.int .i64 3)) (.tmp 8) ?_ Tryd.underlying56 ?_ HV.out (by decide) ?_ (okKey_small (z := 3) (by decide) (by decide)) (val := .agg #[fnV 51, fnV 52]) ?_ ?_); (· exact rfl); (· exact rfl); (· exact rfl); (· exact rfl); (· exact rfl); intro x3 hV hM; have hZ2 := HZ.out.trans hM; clear HZ HV hM; have HV := Lib.hid hV; have HZ := Lib.hid hZ2; clear hV hZ2)
    | ((with_reducible refine wpList_insert_v ?_ (.tmp 5) (.const (.int .i64 7)) (.tmp 9) ?_ Tryd.underlying56 ?_ HV.out (by decide) ?_ (okKey_small (z := 7) (by decide) (by decide)) (val := .agg #[fnV 51, fnV 52]) ?_ ?_); (· exact rfl); (· exact rfl); (· exact rfl); (· exact rfl); (· exact rfl); intro x3 hV hM; have hZ2 := HZ.out.trans hM; clear HZ HV hM; have HV := Lib.hid hV; have HZ := Lib.hid hZ2; clear hV hZ2)
    | ((with_reducible refine wpList_insert_v ?_ (.tmp 5) (.const (.int .i64 13)) (.tmp 10) ?_ Tryd.underlying56 ?_ HV.out (by decide) ?_ (okKey_small (z := 13) (by decide) (by decide)) (val := .agg #[fnV 51, fnV 52]) ?_ ?_); (· exact rfl); (· exact rfl); (· exact rfl); (· exact rfl); (· exact rfl); intro x3 hV hM; have hZ2 := HZ.out.trans hM; clear HZ HV hM; have HV := Lib.hid hV; have HZ := Lib.hid hZ2; clear hV hZ2)
    | ((with_reducible refine wpList_insert_v ?_ (.tmp 5) (.const (.int .i64 4)) (.tmp 11) ?_ Tryd.underlying56 ?_ HV.out (by decide) ?_ (okKey_small (z := 4) (by decide) (by decide)) (val := .agg #[fnV 53, fnV 54]) ?_ ?_); (· exact rfl); (· exact rfl); (· exact rfl); (· exact rfl); (· exact rfl); intro x3 hV hM; have hZ2 := HZ.out.trans hM; clear HZ HV hM; have HV := Lib.hid hV; have HZ := Lib.hid hZ2; clear hV hZ2))
  go_ret
  refine ⟨_, rfl, ?_, ?_⟩
  · exact HV.out
  · exact ((HM1.out.trans HM2.out).alloc _).trans' HZ.out (fun i hi e => by have := HM1.out.size; have := HM2.out.size; omega)
end Go.Proofs.YtcnpiclpdgkngaaDoor
