/- The kinds' map. (printed by gengag.py) -/
import Derived.Test.YteegonadodmeeaaDoorGaB
import Derived.Test.YteegonadodmeeaaDoorVMap
import Derived.Maps.OwnSet
namespace Go.Proofs.YteegonadodmeeaaDoor
open Go.RowKit Go.Maps

def fnV (n : Nat) : Value := .func (.func n) #[] #[]
def kv0 : Value := .agg #[fnV 43, fnV 54, fnV 55, fnV 52]
def kv1 : Value := .agg #[fnV 47, fnV 56, fnV 51, fnV 52]
def kv30 : Value := .agg #[fnV 47, fnV 56, fnV 51, fnV 52]
def kv2 : Value := .agg #[fnV 57, fnV 58, fnV 59, fnV 60]
def kv4 : Value := .agg #[fnV 61, fnV 56, fnV 62, fnV 63]
def kv5 : Value := .agg #[fnV 64, fnV 56, fnV 65, fnV 66]
def kv6 : Value := .agg #[fnV 67, fnV 68, fnV 69, fnV 70]
def kv7 : Value := .agg #[fnV 46, fnV 71, fnV 73, fnV 74]
def kv8 : Value := .agg #[fnV 75, fnV 68, .nilFunc, .nilFunc]
def kv16 : Value := .agg #[fnV 43, fnV 56, fnV 48, fnV 37]
def kv20 : Value := .agg #[fnV 43, fnV 56, fnV 48, fnV 37]
def kv17 : Value := .agg #[fnV 44, fnV 56, fnV 49, fnV 40]
def kv21 : Value := .agg #[fnV 44, fnV 56, fnV 49, fnV 40]
def kv18 : Value := .agg #[fnV 45, fnV 76, fnV 48, fnV 37]
def kv22 : Value := .agg #[fnV 45, fnV 76, fnV 48, fnV 37]
def kv24 : Value := .agg #[fnV 77, fnV 78, fnV 79, fnV 81]
def kv25 : Value := .agg #[fnV 83, fnV 56, fnV 84, fnV 39]
def kv26 : Value := .agg #[fnV 46, fnV 53, fnV 50, fnV 41]
def kv27 : Value := .agg #[fnV 46, fnV 53, fnV 50, fnV 41]
def kv28 : Value := .agg #[fnV 85, fnV 86, fnV 87, fnV 88]
/-- The kinds' functions, by kind. -/
def kindsF (y : Int) : Option Value :=
  if y = 28 then some kv28 else
  if y = 27 then some kv27 else
  if y = 26 then some kv26 else
  if y = 25 then some kv25 else
  if y = 24 then some kv24 else
  if y = 22 then some kv22 else
  if y = 18 then some kv18 else
  if y = 21 then some kv21 else
  if y = 17 then some kv17 else
  if y = 20 then some kv20 else
  if y = 16 then some kv16 else
  if y = 8 then some kv8 else
  if y = 7 then some kv7 else
  if y = 6 then some kv6 else
  if y = 5 then some kv5 else
  if y = 4 then some kv4 else
  if y = 2 then some kv2 else
  if y = 30 then some kv30 else
  if y = 1 then some kv1 else
  if y = 0 then some kv0 else
  none
theorem sizeKd (a b c d : Value) : (Tryd.prog.info? 48).map (·.size) = some (#[a, b, c, d] : Array Value).size := by show _ = some 4; kernel_rfl
theorem okKey_small {z : Int} (h0 : -1 ≤ z) (h1 : z ≤ 100) : okKey z := by
  have e0 : IntKind.i64.min = -9223372036854775808 := by decide
  have e1 : IntKind.i64.max = 9223372036854775807 := by decide
  unfold okKey
  simp only [Lit.wf, e0, e1, Bool.and_eq_true, decide_eq_true_eq]
  omega
theorem wpList_makeMap {P : Program} {w : World} {ops : Array Oper} {rest : List Oper} {o : Oper} {a : Act} {Q : Exit → Act → World → Prop} (hg : o.guard = none) (t : TypeId) (ho : o.op = .makeMap t none)
    (k : wpList P ops Q rest (a.put o.dst (.map (some w.heap.size))) (w.alloc (.map #[] 0))) : wpList P ops Q (o :: rest) a w := by
  refine wpList_plain hg fun K hK => ?_
  have hr := @run_makeMap P t w
  unfold Oper.wp execOp
  simp [ho, hr, Result.andThen]
  exact hK _ _ k
set_option maxHeartbeats 8000000 in
set_option maxRecDepth 100000 in
theorem kinds_any (w : World) : Calls Tryd.prog 22 #[] w fun e w' => ∃ mb, e = .returned (.map (some mb)) ∧ VMap w' mb 20 kindsF ∧ Mod (fun _ => False) w w' := by
  have HV := Lib.hid (VMap.made w)
  have HZ : Hid (Mod (fun k => k = w.heap.size) (w.alloc (.map #[] 0)) (w.alloc (.map #[] 0))) := Mod.refl _ _
  go_enter Tryd.func22, Tryd.ntmps22
  simp only [List.append]
  go_wp2_with (first
    | ((with_reducible refine wpList_makeMap ?_ 50 ?_ ?_); (· exact rfl); (· exact rfl))
    | ((with_reducible refine wpList_build_c ?_ 48 [(0, .tmp 17), (1, .func 54), (2, .func 55), (3, .tmp 18)] ?_ [(0, fnV 43), (1, fnV 54), (2, fnV 55), (3, fnV 52)] ?_ #[fnV 43, fnV 54, fnV 55, fnV 52] ?_ ?_); (· exact rfl); (· exact rfl); (· exact rfl); (· kernel_rfl))
    | ((with_reducible refine wpList_insert_v ?_ (.tmp 16) (.const (.int .i64 0)) (.tmp 19) ?_ Tryd.underlying50 ?_ HV.out (by decide) ?_ (okKey_small (z := 0) (by decide) (by decide)) (val := kv0) ?_ ?_); (· exact rfl); (· exact rfl); (· exact rfl); (· exact rfl); (· exact rfl); intro x3 hV hM; have hZ2 := HZ.out.trans hM; clear HZ HV hM; have HV := Lib.hid hV; have HZ := Lib.hid hZ2; clear hV hZ2)
    | ((with_reducible refine wpList_build_c ?_ 48 [(0, .tmp 20), (1, .func 56), (2, .tmp 21), (3, .tmp 22)] ?_ [(0, fnV 47), (1, fnV 56), (2, fnV 51), (3, fnV 52)] ?_ #[fnV 47, fnV 56, fnV 51, fnV 52] ?_ ?_); (· exact rfl); (· exact rfl); (· exact rfl); (· kernel_rfl))
    | ((with_reducible refine wpList_insert_v ?_ (.tmp 16) (.const (.int .i64 1)) (.tmp 23) ?_ Tryd.underlying50 ?_ HV.out (by decide) ?_ (okKey_small (z := 1) (by decide) (by decide)) (val := kv1) ?_ ?_); (· exact rfl); (· exact rfl); (· exact rfl); (· exact rfl); (· exact rfl); intro x3 hV hM; have hZ2 := HZ.out.trans hM; clear HZ HV hM; have HV := Lib.hid hV; have HZ := Lib.hid hZ2; clear hV hZ2)
    | ((with_reducible refine wpList_build_c ?_ 48 [(0, .tmp 24), (1, .func 56), (2, .tmp 25), (3, .tmp 26)] ?_ [(0, fnV 47), (1, fnV 56), (2, fnV 51), (3, fnV 52)] ?_ #[fnV 47, fnV 56, fnV 51, fnV 52] ?_ ?_); (· exact rfl); (· exact rfl); (· exact rfl); (· kernel_rfl))
    | ((with_reducible refine wpList_insert_v ?_ (.tmp 16) (.const (.int .i64 30)) (.tmp 27) ?_ Tryd.underlying50 ?_ HV.out (by decide) ?_ (okKey_small (z := 30) (by decide) (by decide)) (val := kv30) ?_ ?_); (· exact rfl); (· exact rfl); (· exact rfl); (· exact rfl); (· exact rfl); intro x3 hV hM; have hZ2 := HZ.out.trans hM; clear HZ HV hM; have HV := Lib.hid hV; have HZ := Lib.hid hZ2; clear hV hZ2)
    | ((with_reducible refine wpList_build_c ?_ 48 [(0, .func 57), (1, .func 58), (2, .func 59), (3, .func 60)] ?_ [(0, fnV 57), (1, fnV 58), (2, fnV 59), (3, fnV 60)] ?_ #[fnV 57, fnV 58, fnV 59, fnV 60] ?_ ?_); (· exact rfl); (· exact rfl); (· exact rfl); (· kernel_rfl))
    | ((with_reducible refine wpList_insert_v ?_ (.tmp 16) (.const (.int .i64 2)) (.tmp 28) ?_ Tryd.underlying50 ?_ HV.out (by decide) ?_ (okKey_small (z := 2) (by decide) (by decide)) (val := kv2) ?_ ?_); (· exact rfl); (· exact rfl); (· exact rfl); (· exact rfl); (· exact rfl); intro x3 hV hM; have hZ2 := HZ.out.trans hM; clear HZ HV hM; have HV := Lib.hid hV; have HZ := Lib.hid hZ2; clear hV hZ2)
    | ((with_reducible refine wpList_build_c ?_ 48 [(0, .func 61), (1, .func 56), (2, .func 62), (3, .func 63)] ?_ [(0, fnV 61), (1, fnV 56), (2, fnV 62), (3, fnV 63)] ?_ #[fnV 61, fnV 56, fnV 62, fnV 63] ?_ ?_); (· exact rfl); (· exact rfl); (· exact rfl); (· kernel_rfl))
    | ((with_reducible refine wpList_insert_v ?_ (.tmp 16) (.const (.int .i64 4)) (.tmp 29) ?_ Tryd.underlying50 ?_ HV.out (by decide) ?_ (okKey_small (z := 4) (by decide) (by decide)) (val := kv4) ?_ ?_); (· exact rfl); (· exact rfl); (· exact rfl); (· exact rfl); (· exact rfl); intro x3 hV hM; have hZ2 := HZ.out.trans hM; clear HZ HV hM; have HV := Lib.hid hV; have HZ := Lib.hid hZ2; clear hV hZ2)
    | ((with_reducible refine wpList_build_c ?_ 48 [(0, .func 64), (1, .func 56), (2, .func 65), (3, .func 66)] ?_ [(0, fnV 64), (1, fnV 56), (2, fnV 65), (3, fnV 66)] ?_ #[fnV 64, fnV 56, fnV 65, fnV 66] ?_ ?_); (· exact rfl); (· exact rfl); (· exact rfl); (· kernel_rfl))
    | ((with_reducible refine wpList_insert_v ?_ (.tmp 16) (.const (.int .i64 5)) (.tmp 30) ?_ Tryd.underlying50 ?_ HV.out (by decide) ?_ (okKey_small (z := 5) (by decide) (by decide)) (val := kv5) ?_ ?_); (· exact rfl); (· exact rfl); (· exact rfl); (· exact rfl); (· exact rfl); intro x3 hV hM; have hZ2 := HZ.out.trans hM; clear HZ HV hM; have HV := Lib.hid hV; have HZ := Lib.hid hZ2; clear hV hZ2)
    | ((with_reducible refine wpList_build_c ?_ 48 [(0, .func 67), (1, .func 68), (2, .func 69), (3, .func 70)] ?_ [(0, fnV 67), (1, fnV 68), (2, fnV 69), (3, fnV 70)] ?_ #[fnV 67, fnV 68, fnV 69, fnV 70] ?_ ?_); (· exact rfl); (· exact rfl); (· exact rfl); (· kernel_rfl))
    | ((with_reducible refine wpList_insert_v ?_ (.tmp 16) (.const (.int .i64 6)) (.tmp 31) ?_ Tryd.underlying50 ?_ HV.out (by decide) ?_ (okKey_small (z := 6) (by decide) (by decide)) (val := kv6) ?_ ?_); (· exact rfl); (· exact rfl); (· exact rfl); (· exact rfl); (· exact rfl); intro x3 hV hM; have hZ2 := HZ.out.trans hM; clear HZ HV hM; have HV := Lib.hid hV; have HZ := Lib.hid hZ2; clear hV hZ2)
    | ((with_reducible refine wpList_build_c ?_ 48 [(0, .tmp 32), (1, .func 71), (2, .func 73), (3, .func 74)] ?_ [(0, fnV 46), (1, fnV 71), (2, fnV 73), (3, fnV 74)] ?_ #[fnV 46, fnV 71, fnV 73, fnV 74] ?_ ?_); (· exact rfl); (· exact rfl); (· exact rfl); (· kernel_rfl))
    | ((with_reducible refine wpList_insert_v ?_ (.tmp 16) (.const (.int .i64 7)) (.tmp 33) ?_ Tryd.underlying50 ?_ HV.out (by decide) ?_ (okKey_small (z := 7) (by decide) (by decide)) (val := kv7) ?_ ?_); (· exact rfl); (· exact rfl); (· exact rfl); (· exact rfl); (· exact rfl); intro x3 hV hM; have hZ2 := HZ.out.trans hM; clear HZ HV hM; have HV := Lib.hid hV; have HZ := Lib.hid hZ2; clear hV hZ2)
    | ((with_reducible refine wpList_build_c ?_ 48 [(0, .func 75), (1, .func 68), (2, .const .nilFunc), (3, .const .nilFunc)] ?_ [(0, fnV 75), (1, fnV 68), (2, .nilFunc), (3, .nilFunc)] ?_ #[fnV 75, fnV 68, .nilFunc, .nilFunc] ?_ ?_); (· exact rfl); (· exact rfl); (· exact rfl); (· kernel_rfl))
    | ((with_reducible refine wpList_insert_v ?_ (.tmp 16) (.const (.int .i64 8)) (.tmp 34) ?_ Tryd.underlying50 ?_ HV.out (by decide) ?_ (okKey_small (z := 8) (by decide) (by decide)) (val := kv8) ?_ ?_); (· exact rfl); (· exact rfl); (· exact rfl); (· exact rfl); (· exact rfl); intro x3 hV hM; have hZ2 := HZ.out.trans hM; clear HZ HV hM; have HV := Lib.hid hV; have HZ := Lib.hid hZ2; clear hV hZ2)
    | ((with_reducible refine wpList_build_c ?_ 48 [(0, .tmp 35), (1, .func 56), (2, .tmp 36), (3, .tmp 37)] ?_ [(0, fnV 43), (1, fnV 56), (2, fnV 48), (3, fnV 37)] ?_ #[fnV 43, fnV 56, fnV 48, fnV 37] ?_ ?_); (· exact rfl); (· exact rfl); (· exact rfl); (· kernel_rfl))
    | ((with_reducible refine wpList_insert_v ?_ (.tmp 16) (.const (.int .i64 16)) (.tmp 38) ?_ Tryd.underlying50 ?_ HV.out (by decide) ?_ (okKey_small (z := 16) (by decide) (by decide)) (val := kv16) ?_ ?_); (· exact rfl); (· exact rfl); (· exact rfl); (· exact rfl); (· exact rfl); intro x3 hV hM; have hZ2 := HZ.out.trans hM; clear HZ HV hM; have HV := Lib.hid hV; have HZ := Lib.hid hZ2; clear hV hZ2)
    | ((with_reducible refine wpList_build_c ?_ 48 [(0, .tmp 39), (1, .func 56), (2, .tmp 40), (3, .tmp 41)] ?_ [(0, fnV 43), (1, fnV 56), (2, fnV 48), (3, fnV 37)] ?_ #[fnV 43, fnV 56, fnV 48, fnV 37] ?_ ?_); (· exact rfl); (· exact rfl); (· exact rfl); (· kernel_rfl))
    | ((with_reducible refine wpList_insert_v ?_ (.tmp 16) (.const (.int .i64 20)) (.tmp 42) ?_ Tryd.underlying50 ?_ HV.out (by decide) ?_ (okKey_small (z := 20) (by decide) (by decide)) (val := kv20) ?_ ?_); (· exact rfl); (· exact rfl); (· exact rfl); (· exact rfl); (· exact rfl); intro x3 hV hM; have hZ2 := HZ.out.trans hM; clear HZ HV hM; have HV := Lib.hid hV; have HZ := Lib.hid hZ2; clear hV hZ2)
    | ((with_reducible refine wpList_build_c ?_ 48 [(0, .tmp 43), (1, .func 56), (2, .tmp 44), (3, .tmp 45)] ?_ [(0, fnV 44), (1, fnV 56), (2, fnV 49), (3, fnV 40)] ?_ #[fnV 44, fnV 56, fnV 49, fnV 40] ?_ ?_); (· exact rfl); (· exact rfl); (· exact rfl); (· kernel_rfl))
    | ((with_reducible refine wpList_insert_v ?_ (.tmp 16) (.const (.int .i64 17)) (.tmp 46) ?_ Tryd.underlying50 ?_ HV.out (by decide) ?_ (okKey_small (z := 17) (by decide) (by decide)) (val := kv17) ?_ ?_); (· exact rfl); (· exact rfl); (· exact rfl); (· exact rfl); (· exact rfl); intro x3 hV hM; have hZ2 := HZ.out.trans hM; clear HZ HV hM; have HV := Lib.hid hV; have HZ := Lib.hid hZ2; clear hV hZ2)
    | ((with_reducible refine wpList_build_c ?_ 48 [(0, .tmp 47), (1, .func 56), (2, .tmp 48), (3, .tmp 49)] ?_ [(0, fnV 44), (1, fnV 56), (2, fnV 49), (3, fnV 40)] ?_ #[fnV 44, fnV 56, fnV 49, fnV 40] ?_ ?_); (· exact rfl); (· exact rfl); (· exact rfl); (· kernel_rfl))
    | ((with_reducible refine wpList_insert_v ?_ (.tmp 16) (.const (.int .i64 21)) (.tmp 50) ?_ Tryd.underlying50 ?_ HV.out (by decide) ?_ (okKey_small (z := 21) (by decide) (by decide)) (val := kv21) ?_ ?_); (· exact rfl); (· exact rfl); (· exact rfl); (· exact rfl); (· exact rfl); intro x3 hV hM; have hZ2 := HZ.out.trans hM; clear HZ HV hM; have HV := Lib.hid hV; have HZ := Lib.hid hZ2; clear hV hZ2)
    | ((with_reducible refine wpList_build_c ?_ 48 [(0, .tmp 51), (1, .func 76), (2, .tmp 52), (3, .tmp 53)] ?_ [(0, fnV 45), (1, fnV 76), (2, fnV 48), (3, fnV 37)] ?_ #[fnV 45, fnV 76, fnV 48, fnV 37] ?_ ?_); (· exact rfl); (· exact rfl); (· exact rfl); (· kernel_rfl))
    | ((with_reducible refine wpList_insert_v ?_ (.tmp 16) (.const (.int .i64 18)) (.tmp 54) ?_ Tryd.underlying50 ?_ HV.out (by decide) ?_ (okKey_small (z := 18) (by decide) (by decide)) (val := kv18) ?_ ?_); (· exact rfl); (· exact rfl); (· exact rfl); (· exact rfl); (· exact rfl); intro x3 hV hM; have hZ2 := HZ.out.trans hM; clear HZ HV hM; have HV := Lib.hid hV; have HZ := Lib.hid hZ2; clear hV hZ2)
    | ((with_reducible refine wpList_build_c ?_ 48 [(0, .tmp 55), (1, .func 76), (2, .tmp 56), (3, .tmp 57)] ?_ [(0, fnV 45), (1, fnV 76), (2, fnV 48), (3, fnV 37)] ?_ #[fnV 45, fnV 76, fnV 48, fnV 37] ?_ ?_); (· exact rfl); (· exact rfl); (· exact rfl); (· kernel_rfl))
    | ((with_reducible refine wpList_insert_v ?_ (.tmp 16) (.const (.int .i64 22)) (.tmp 58) ?_ Tryd.underlying50 ?_ HV.out (by decide) ?_ (okKey_small (z := 22) (by decide) (by decide)) (val := kv22) ?_ ?_); (· exact rfl); (· exact rfl); (· exact rfl); (· exact rfl); (· exact rfl); intro x3 hV hM; have hZ2 := HZ.out.trans hM; clear HZ HV hM; have HV := Lib.hid hV; have HZ := Lib.hid hZ2; clear hV hZ2)
    | ((with_reducible refine wpList_build_c ?_ 48 [(0, .func 77), (1, .func 78), (2, .func 79), (3, .func 81)] ?_ [(0, fnV 77), (1, fnV 78), (2, fnV 79), (3, fnV 81)] ?_ #[fnV 77, fnV 78, fnV 79, fnV 81] ?_ ?_); (· exact rfl); (· exact rfl); (· exact rfl); (· kernel_rfl))
    | ((with_reducible refine wpList_insert_v ?_ (.tmp 16) (.const (.int .i64 24)) (.tmp 59) ?_ Tryd.underlying50 ?_ HV.out (by decide) ?_ (okKey_small (z := 24) (by decide) (by decide)) (val := kv24) ?_ ?_); (· exact rfl); (· exact rfl); (· exact rfl); (· exact rfl); (· exact rfl); intro x3 hV hM; have hZ2 := HZ.out.trans hM; clear HZ HV hM; have HV := Lib.hid hV; have HZ := Lib.hid hZ2; clear hV hZ2)
    | ((with_reducible refine wpList_build_c ?_ 48 [(0, .func 83), (1, .func 56), (2, .func 84), (3, .tmp 60)] ?_ [(0, fnV 83), (1, fnV 56), (2, fnV 84), (3, fnV 39)] ?_ #[fnV 83, fnV 56, fnV 84, fnV 39] ?_ ?_); (· exact rfl); (· exact rfl); (· exact rfl); (· kernel_rfl))
    | ((with_reducible refine wpList_insert_v ?_ (.tmp 16) (.const (.int .i64 25)) (.tmp 61) ?_ Tryd.underlying50 ?_ HV.out (by decide) ?_ (okKey_small (z := 25) (by decide) (by decide)) (val := kv25) ?_ ?_); (· exact rfl); (· exact rfl); (· exact rfl); (· exact rfl); (· exact rfl); intro x3 hV hM; have hZ2 := HZ.out.trans hM; clear HZ HV hM; have HV := Lib.hid hV; have HZ := Lib.hid hZ2; clear hV hZ2)
    | ((with_reducible refine wpList_build_c ?_ 48 [(0, .tmp 62), (1, .tmp 63), (2, .tmp 64), (3, .tmp 65)] ?_ [(0, fnV 46), (1, fnV 53), (2, fnV 50), (3, fnV 41)] ?_ #[fnV 46, fnV 53, fnV 50, fnV 41] ?_ ?_); (· exact rfl); (· exact rfl); (· exact rfl); (· kernel_rfl))
    | ((with_reducible refine wpList_insert_v ?_ (.tmp 16) (.const (.int .i64 26)) (.tmp 66) ?_ Tryd.underlying50 ?_ HV.out (by decide) ?_ (okKey_small (z := 26) (by decide) (by decide)) (val := kv26) ?_ ?_); (· exact rfl); (· exact rfl); (· exact rfl); (· exact rfl); (· exact rfl); intro x3 hV hM; have hZ2 := HZ.out.trans hM; clear HZ HV hM; have HV := Lib.hid hV; have HZ := Lib.hid hZ2; clear hV hZ2)
    | ((with_reducible refine wpList_build_c ?_ 48 [(0, .tmp 67), (1, .tmp 68), (2, .tmp 69), (3, .tmp 70)] ?_ [(0, fnV 46), (1, fnV 53), (2, fnV 50), (3, fnV 41)] ?_ #[fnV 46, fnV 53, fnV 50, fnV 41] ?_ ?_); (· exact rfl); (· exact rfl); (· exact rfl); (· kernel_rfl))
    | ((with_reducible refine wpList_insert_v ?_ (.tmp 16) (.const (.int .i64 27)) (.tmp 71) ?_ Tryd.underlying50 ?_ HV.out (by decide) ?_ (okKey_small (z := 27) (by decide) (by decide)) (val := kv27) ?_ ?_); (· exact rfl); (· exact rfl); (· exact rfl); (· exact rfl); (· exact rfl); intro x3 hV hM; have hZ2 := HZ.out.trans hM; clear HZ HV hM; have HV := Lib.hid hV; have HZ := Lib.hid hZ2; clear hV hZ2)
    | ((with_reducible refine wpList_build_c ?_ 48 [(0, .func 85), (1, .func 86), (2, .func 87), (3, .func 88)] ?_ [(0, fnV 85), (1, fnV 86), (2, fnV 87), (3, fnV 88)] ?_ #[fnV 85, fnV 86, fnV 87, fnV 88] ?_ ?_); (· exact rfl); (· exact rfl); (· exact rfl); (· kernel_rfl))
    | ((with_reducible refine wpList_insert_v ?_ (.tmp 16) (.const (.int .i64 28)) (.tmp 72) ?_ Tryd.underlying50 ?_ HV.out (by decide) ?_ (okKey_small (z := 28) (by decide) (by decide)) (val := kv28) ?_ ?_); (· exact rfl); (· exact rfl); (· exact rfl); (· exact rfl); (· exact rfl); intro x3 hV hM; have hZ2 := HZ.out.trans hM; clear HZ HV hM; have HV := Lib.hid hV; have HZ := Lib.hid hZ2; clear hV hZ2)
    | fail)
  go_ret
  refine ⟨_, rfl, ?_, ?_⟩
  · exact HV.out
  · exact ((Mod.refl (fun _ => False) w).alloc _).trans' HZ.out (fun i hi e => by omega)
theorem VMap.look2 {t e : TypeId} {w : World} {mb n : Nat} {z : Int} {f : Int → Option Value} {zv : Value} (h : VMap w mb n f) (hz : okKey z) (ht : Tryd.prog.underlying t = some (.map 3 e)) (h0 : (zeroValue e).run Tryd.prog w = .ok zv w) :
    (Instr.lookup t (.map (some mb)) (.int .i64 z) true).run Tryd.prog w = .ok (.tuple #[(f z).getD zv, .bool (f z).isSome]) w := by
  obtain ⟨D, h1, h2, h3⟩ := h
  obtain ⟨v, ps, hr, hv⟩ := h1.look_ok lawInt ht h0 (zd := .held zv) (zp := []) rfl (okKey_key hz)
  rw [(h3 z hz).1 zv] at hv
  simp only [anyElem, Option.some.injEq, Prod.mk.injEq, DataW.held.injEq] at hv
  rw [hr, hv.1, (h3 z hz).2]
def kvZ : Value := .agg #[.nilFunc, .nilFunc, .nilFunc, .nilFunc]
theorem zero_kind (w : World) : (zeroValue 48).run Tryd.prog w = .ok kvZ w := by kernel_rfl
/-- A kind there is none of. -/
theorem kinds_none {y : Int} (h : maskK y = none) : kindsF y = none := by
  unfold kindsF
  rw [if_neg (by rintro rfl; exact absurd h (by decide))]
  rw [if_neg (by rintro rfl; exact absurd h (by decide))]
  rw [if_neg (by rintro rfl; exact absurd h (by decide))]
  rw [if_neg (by rintro rfl; exact absurd h (by decide))]
  rw [if_neg (by rintro rfl; exact absurd h (by decide))]
  rw [if_neg (by rintro rfl; exact absurd h (by decide))]
  rw [if_neg (by rintro rfl; exact absurd h (by decide))]
  rw [if_neg (by rintro rfl; exact absurd h (by decide))]
  rw [if_neg (by rintro rfl; exact absurd h (by decide))]
  rw [if_neg (by rintro rfl; exact absurd h (by decide))]
  rw [if_neg (by rintro rfl; exact absurd h (by decide))]
  rw [if_neg (by rintro rfl; exact absurd h (by decide))]
  rw [if_neg (by rintro rfl; exact absurd h (by decide))]
  rw [if_neg (by rintro rfl; exact absurd h (by decide))]
  rw [if_neg (by rintro rfl; exact absurd h (by decide))]
  rw [if_neg (by rintro rfl; exact absurd h (by decide))]
  rw [if_neg (by rintro rfl; exact absurd h (by decide))]
  rw [if_neg (by rintro rfl; exact absurd h (by decide))]
  rw [if_neg (by rintro rfl; exact absurd h (by decide))]
  rw [if_neg (by rintro rfl; exact absurd h (by decide))]
end Go.Proofs.YteegonadodmeeaaDoor
