/- Parts of the proof: GaG GaH KbI GaJ. -/
import Derived.Test.YtahgidkpjmecdaaGreatDoorB02
import Derived.Test.YtahgidkpjmecdaaGreatDoorB03
import Derived.Maps.OwnSet
import Derived.Deep.DeepCutAuto
set_option maxRecDepth 100000
namespace Go.Proofs.YtahgidkpjmecdaaGreatDoor
open Go.RowKit Go.Maps
def fnV (n : Nat) : Value := .func (.func n) #[] #[]
def kv0 : Value := .agg #[fnV 145, fnV 156, fnV 157, fnV 154]
def kv1 : Value := .agg #[fnV 149, fnV 158, fnV 153, fnV 154]
def kv30 : Value := .agg #[fnV 149, fnV 158, fnV 153, fnV 154]
def kv2 : Value := .agg #[fnV 159, fnV 160, fnV 161, fnV 162]
def kv4 : Value := .agg #[fnV 163, fnV 158, fnV 164, fnV 165]
def kv5 : Value := .agg #[fnV 166, fnV 158, fnV 167, fnV 168]
def kv6 : Value := .agg #[fnV 169, fnV 170, fnV 171, fnV 172]
def kv7 : Value := .agg #[fnV 148, fnV 173, fnV 175, fnV 176]
def kv8 : Value := .agg #[fnV 177, fnV 170, .nilFunc, .nilFunc]
def kv16 : Value := .agg #[fnV 145, fnV 158, fnV 150, fnV 141]
def kv20 : Value := .agg #[fnV 145, fnV 158, fnV 150, fnV 141]
def kv17 : Value := .agg #[fnV 146, fnV 158, fnV 151, fnV 143]
def kv21 : Value := .agg #[fnV 146, fnV 158, fnV 151, fnV 143]
def kv18 : Value := .agg #[fnV 147, fnV 178, fnV 150, fnV 141]
def kv22 : Value := .agg #[fnV 147, fnV 178, fnV 150, fnV 141]
def kv24 : Value := .agg #[fnV 179, fnV 180, fnV 181, fnV 182]
def kv25 : Value := .agg #[fnV 184, fnV 158, fnV 185, fnV 142]
def kv26 : Value := .agg #[fnV 148, fnV 155, fnV 152, fnV 144]
def kv27 : Value := .agg #[fnV 148, fnV 155, fnV 152, fnV 144]
def kv28 : Value := .agg #[fnV 186, fnV 187, fnV 188, fnV 189]
def kindsF (y : Int) : Option Value :=
 if y = 28 then some kv28 else
 if y = 27 then some kv27 else
 if y = 26 then some kv26 else
 if y = 25 then some kv25 else
 if y = 24 then some kv24 else
 if y = 22 then some kv22 else
 if y = 18 then some kv18 else
 if y = 21 then some kv21 else
 if y = 17 then some kv17 else
 if y = 20 then some kv20 else
 if y = 16 then some kv16 else
 if y = 8 then some kv8 else
 if y = 7 then some kv7 else
 if y = 6 then some kv6 else
 if y = 5 then some kv5 else
 if y = 4 then some kv4 else
 if y = 2 then some kv2 else
 if y = 30 then some kv30 else
 if y = 1 then some kv1 else
 if y = 0 then some kv0 else
 none
theorem sizeKd (a b c d : Value) : (Tryz.prog.info? 170).map (·.size) = some (#[a, b, c, d] : Array Value).size := by show _ = some 4; kernel_rfl
theorem okKey_small {z : Int} (h0 : -1 ≤ z) (h1 : z ≤ 100) : okKey z := by
 have e0 : IntKind.i64.min = -9223372036854775808 := by decide
 have e1 : IntKind.i64.max = 9223372036854775807 := by decide
 unfold okKey
 simp only [Lit.wf, e0, e1, Bool.and_eq_true, decide_eq_true_eq]
 omega
theorem wpList_makeMap {P : Program} {w : World} {ops : Array Oper} {rest : List Oper} {o : Oper} {a : Act} {Q : Exit → Act → World → Prop} (hg : o.guard = none) (t : TypeId) (ho : o.op = .makeMap t none)
  (k : wpList P ops Q rest (a.put o.dst (.map (some w.heap.size))) (w.alloc (.map #[] 0))) : wpList P ops Q (o :: rest) a w := by
 refine wpList_plain hg fun K hK => ?_
 have hr := @run_makeMap P t w
 unfold Oper.wp execOp
 simp [ho, hr, Result.andThen]
 exact hK _ _ k
set_option maxHeartbeats 8000000 in
set_option maxRecDepth 100000 in
theorem kinds_any (w : World) : Calls Tryz.prog 97 #[] w fun e w' => ∃ mb, e = .returned (.map (some mb)) ∧ VMap w' mb 20 kindsF ∧ Mod (fun _ => False) w w' := by
 have HV := Lib.hid (VMap.made w)
 have HZ : Hid (Mod (fun k => k = w.heap.size) (w.alloc (.map #[] 0)) (w.alloc (.map #[] 0))) := Mod.refl _ _
 go_enter Tryz.func97, Tryz.ntmps97
 simp only [List.append]
 go_wp2_with (first
  | ((with_reducible refine wpList_makeMap ?_ 171 ?_ ?_); (iterate 2 exact rfl))
  | ((with_reducible refine wpList_build_c ?_ 170 [(0, .tmp 17), (1, .func 156), (2, .func 157), (3, .tmp 18)] ?_ [(0, fnV 145), (1, fnV 156), (2, fnV 157), (3, fnV 154)] ?_ #[fnV 145, fnV 156, fnV 157, fnV 154] ?_ ?_); (iterate 3 exact rfl); (· kernel_rfl))
  | ((with_reducible refine wpList_insert_v ?_ (.tmp 16) (.const (.int .i64 0)) (.tmp 19) ?_ Tryz.underlying171 ?_ HV.out (by decide) ?_ (okKey_small (z := 0) (by decide) (by decide)) (val := kv0) ?_ ?_); (iterate 5 exact rfl); intro x3 hV hM; have hZ2 := HZ.out.trans hM; clear HZ HV hM; have HV := Lib.hid hV; have HZ := Lib.hid hZ2; clear hV hZ2)
  | ((with_reducible refine wpList_build_c ?_ 170 [(0, .tmp 20), (1, .func 158), (2, .tmp 21), (3, .tmp 22)] ?_ [(0, fnV 149), (1, fnV 158), (2, fnV 153), (3, fnV 154)] ?_ #[fnV 149, fnV 158, fnV 153, fnV 154] ?_ ?_); (iterate 3 exact rfl); (· kernel_rfl))
  | ((with_reducible refine wpList_insert_v ?_ (.tmp 16) (.const (.int .i64 1)) (.tmp 23) ?_ Tryz.underlying171 ?_ HV.out (by decide) ?_ (okKey_small (z := 1) (by decide) (by decide)) (val := kv1) ?_ ?_); (iterate 5 exact rfl); intro x3 hV hM; have hZ2 := HZ.out.trans hM; clear HZ HV hM; have HV := Lib.hid hV; have HZ := Lib.hid hZ2; clear hV hZ2)
  | ((with_reducible refine wpList_build_c ?_ 170 [(0, .tmp 24), (1, .func 158), (2, .tmp 25), (3, .tmp 26)] ?_ [(0, fnV 149), (1, fnV 158), (2, fnV 153), (3, fnV 154)] ?_ #[fnV 149, fnV 158, fnV 153, fnV 154] ?_ ?_); (iterate 3 exact rfl); (· kernel_rfl))
  | ((with_reducible refine wpList_insert_v ?_ (.tmp 16) (.const (.int .i64 30)) (.tmp 27) ?_ Tryz.underlying171 ?_ HV.out (by decide) ?_ (okKey_small (z := 30) (by decide) (by decide)) (val := kv30) ?_ ?_); (iterate 5 exact rfl); intro x3 hV hM; have hZ2 := HZ.out.trans hM; clear HZ HV hM; have HV := Lib.hid hV; have HZ := Lib.hid hZ2; clear hV hZ2)
  | ((with_reducible refine wpList_build_c ?_ 170 [(0, .func 159), (1, .func 160), (2, .func 161), (3, .func 162)] ?_ [(0, fnV 159), (1, fnV 160), (2, fnV 161), (3, fnV 162)] ?_ #[fnV 159, fnV 160, fnV 161, fnV 162] ?_ ?_); (iterate 3 exact rfl); (· kernel_rfl))
  | ((with_reducible refine wpList_insert_v ?_ (.tmp 16) (.const (.int .i64 2)) (.tmp 28) ?_ Tryz.underlying171 ?_ HV.out (by decide) ?_ (okKey_small (z := 2) (by decide) (by decide)) (val := kv2) ?_ ?_); (iterate 5 exact rfl); intro x3 hV hM; have hZ2 := HZ.out.trans hM; clear HZ HV hM; have HV := Lib.hid hV; have HZ := Lib.hid hZ2; clear hV hZ2)
  | ((with_reducible refine wpList_build_c ?_ 170 [(0, .func 163), (1, .func 158), (2, .func 164), (3, .func 165)] ?_ [(0, fnV 163), (1, fnV 158), (2, fnV 164), (3, fnV 165)] ?_ #[fnV 163, fnV 158, fnV 164, fnV 165] ?_ ?_); (iterate 3 exact rfl); (· kernel_rfl))
  | ((with_reducible refine wpList_insert_v ?_ (.tmp 16) (.const (.int .i64 4)) (.tmp 29) ?_ Tryz.underlying171 ?_ HV.out (by decide) ?_ (okKey_small (z := 4) (by decide) (by decide)) (val := kv4) ?_ ?_); (iterate 5 exact rfl); intro x3 hV hM; have hZ2 := HZ.out.trans hM; clear HZ HV hM; have HV := Lib.hid hV; have HZ := Lib.hid hZ2; clear hV hZ2)
  | ((with_reducible refine wpList_build_c ?_ 170 [(0, .func 166), (1, .func 158), (2, .func 167), (3, .func 168)] ?_ [(0, fnV 166), (1, fnV 158), (2, fnV 167), (3, fnV 168)] ?_ #[fnV 166, fnV 158, fnV 167, fnV 168] ?_ ?_); (iterate 3 exact rfl); (· kernel_rfl))
  | ((with_reducible refine wpList_insert_v ?_ (.tmp 16) (.const (.int .i64 5)) (.tmp 30) ?_ Tryz.underlying171 ?_ HV.out (by decide) ?_ (okKey_small (z := 5) (by decide) (by decide)) (val := kv5) ?_ ?_); (iterate 5 exact rfl); intro x3 hV hM; have hZ2 := HZ.out.trans hM; clear HZ HV hM; have HV := Lib.hid hV; have HZ := Lib.hid hZ2; clear hV hZ2)
  | ((with_reducible refine wpList_build_c ?_ 170 [(0, .func 169), (1, .func 170), (2, .func 171), (3, .func 172)] ?_ [(0, fnV 169), (1, fnV 170), (2, fnV 171), (3, fnV 172)] ?_ #[fnV 169, fnV 170, fnV 171, fnV 172] ?_ ?_); (iterate 3 exact rfl); (· kernel_rfl))
  | ((with_reducible refine wpList_insert_v ?_ (.tmp 16) (.const (.int .i64 6)) (.tmp 31) ?_ Tryz.underlying171 ?_ HV.out (by decide) ?_ (okKey_small (z := 6) (by decide) (by decide)) (val := kv6) ?_ ?_); (iterate 5 exact rfl); intro x3 hV hM; have hZ2 := HZ.out.trans hM; clear HZ HV hM; have HV := Lib.hid hV; have HZ := Lib.hid hZ2; clear hV hZ2)
  | ((with_reducible refine wpList_build_c ?_ 170 [(0, .tmp 32), (1, .func 173), (2, .func 175), (3, .func 176)] ?_ [(0, fnV 148), (1, fnV 173), (2, fnV 175), (3, fnV 176)] ?_ #[fnV 148, fnV 173, fnV 175, fnV 176] ?_ ?_); (iterate 3 exact rfl); (· kernel_rfl))
  | ((with_reducible refine wpList_insert_v ?_ (.tmp 16) (.const (.int .i64 7)) (.tmp 33) ?_ Tryz.underlying171 ?_ HV.out (by decide) ?_ (okKey_small (z := 7) (by decide) (by decide)) (val := kv7) ?_ ?_); (iterate 5 exact rfl); intro x3 hV hM; have hZ2 := HZ.out.trans hM; clear HZ HV hM; have HV := Lib.hid hV; have HZ := Lib.hid hZ2; clear hV hZ2)
  | ((with_reducible refine wpList_build_c ?_ 170 [(0, .func 177), (1, .func 170), (2, .const .nilFunc), (3, .const .nilFunc)] ?_ [(0, fnV 177), (1, fnV 170), (2, .nilFunc), (3, .nilFunc)] ?_ #[fnV 177, fnV 170, .nilFunc, .nilFunc] ?_ ?_); (iterate 3 exact rfl); (· kernel_rfl))
  | ((with_reducible refine wpList_insert_v ?_ (.tmp 16) (.const (.int .i64 8)) (.tmp 34) ?_ Tryz.underlying171 ?_ HV.out (by decide) ?_ (okKey_small (z := 8) (by decide) (by decide)) (val := kv8) ?_ ?_); (iterate 5 exact rfl); intro x3 hV hM; have hZ2 := HZ.out.trans hM; clear HZ HV hM; have HV := Lib.hid hV; have HZ := Lib.hid hZ2; clear hV hZ2)
  | ((with_reducible refine wpList_build_c ?_ 170 [(0, .tmp 35), (1, .func 158), (2, .tmp 36), (3, .tmp 37)] ?_ [(0, fnV 145), (1, fnV 158), (2, fnV 150), (3, fnV 141)] ?_ #[fnV 145, fnV 158, fnV 150, fnV 141] ?_ ?_); (iterate 3 exact rfl); (· kernel_rfl))
  | ((with_reducible refine wpList_insert_v ?_ (.tmp 16) (.const (.int .i64 16)) (.tmp 38) ?_ Tryz.underlying171 ?_ HV.out (by decide) ?_ (okKey_small (z := 16) (by decide) (by decide)) (val := kv16) ?_ ?_); (iterate 5 exact rfl); intro x3 hV hM; have hZ2 := HZ.out.trans hM; clear HZ HV hM; have HV := Lib.hid hV; have HZ := Lib.hid hZ2; clear hV hZ2)
  | ((with_reducible refine wpList_build_c ?_ 170 [(0, .tmp 39), (1, .func 158), (2, .tmp 40), (3, .tmp 41)] ?_ [(0, fnV 145), (1, fnV 158), (2, fnV 150), (3, fnV 141)] ?_ #[fnV 145, fnV 158, fnV 150, fnV 141] ?_ ?_); (iterate 3 exact rfl); (· kernel_rfl))
  | ((with_reducible refine wpList_insert_v ?_ (.tmp 16) (.const (.int .i64 20)) (.tmp 42) ?_ Tryz.underlying171 ?_ HV.out (by decide) ?_ (okKey_small (z := 20) (by decide) (by decide)) (val := kv20) ?_ ?_); (iterate 5 exact rfl); intro x3 hV hM; have hZ2 := HZ.out.trans hM; clear HZ HV hM; have HV := Lib.hid hV; have HZ := Lib.hid hZ2; clear hV hZ2)
  | ((with_reducible refine wpList_build_c ?_ 170 [(0, .tmp 43), (1, .func 158), (2, .tmp 44), (3, .tmp 45)] ?_ [(0, fnV 146), (1, fnV 158), (2, fnV 151), (3, fnV 143)] ?_ #[fnV 146, fnV 158, fnV 151, fnV 143] ?_ ?_); (iterate 3 exact rfl); (· kernel_rfl))
  | ((with_reducible refine wpList_insert_v ?_ (.tmp 16) (.const (.int .i64 17)) (.tmp 46) ?_ Tryz.underlying171 ?_ HV.out (by decide) ?_ (okKey_small (z := 17) (by decide) (by decide)) (val := kv17) ?_ ?_); (iterate 5 exact rfl); intro x3 hV hM; have hZ2 := HZ.out.trans hM; clear HZ HV hM; have HV := Lib.hid hV; have HZ := Lib.hid hZ2; clear hV hZ2)
  | ((with_reducible refine wpList_build_c ?_ 170 [(0, .tmp 47), (1, .func 158), (2, .tmp 48), (3, .tmp 49)] ?_ [(0, fnV 146), (1, fnV 158), (2, fnV 151), (3, fnV 143)] ?_ #[fnV 146, fnV 158, fnV 151, fnV 143] ?_ ?_); (iterate 3 exact rfl); (· kernel_rfl))
  | ((with_reducible refine wpList_insert_v ?_ (.tmp 16) (.const (.int .i64 21)) (.tmp 50) ?_ Tryz.underlying171 ?_ HV.out (by decide) ?_ (okKey_small (z := 21) (by decide) (by decide)) (val := kv21) ?_ ?_); (iterate 5 exact rfl); intro x3 hV hM; have hZ2 := HZ.out.trans hM; clear HZ HV hM; have HV := Lib.hid hV; have HZ := Lib.hid hZ2; clear hV hZ2)
  | ((with_reducible refine wpList_build_c ?_ 170 [(0, .tmp 51), (1, .func 178), (2, .tmp 52), (3, .tmp 53)] ?_ [(0, fnV 147), (1, fnV 178), (2, fnV 150), (3, fnV 141)] ?_ #[fnV 147, fnV 178, fnV 150, fnV 141] ?_ ?_); (iterate 3 exact rfl); (· kernel_rfl))
  | ((with_reducible refine wpList_insert_v ?_ (.tmp 16) (.const (.int .i64 18)) (.tmp 54) ?_ Tryz.underlying171 ?_ HV.out (by decide) ?_ (okKey_small (z := 18) (by decide) (by decide)) (val := kv18) ?_ ?_); (iterate 5 exact rfl); intro x3 hV hM; have hZ2 := HZ.out.trans hM; clear HZ HV hM; have HV := Lib.hid hV; have HZ := Lib.hid hZ2; clear hV hZ2)
  | ((with_reducible refine wpList_build_c ?_ 170 [(0, .tmp 55), (1, .func 178), (2, .tmp 56), (3, .tmp 57)] ?_ [(0, fnV 147), (1, fnV 178), (2, fnV 150), (3, fnV 141)] ?_ #[fnV 147, fnV 178, fnV 150, fnV 141] ?_ ?_); (iterate 3 exact rfl); (· kernel_rfl))
  | ((with_reducible refine wpList_insert_v ?_ (.tmp 16) (.const (.int .i64 22)) (.tmp 58) ?_ Tryz.underlying171 ?_ HV.out (by decide) ?_ (okKey_small (z := 22) (by decide) (by decide)) (val := kv22) ?_ ?_); (iterate 5 exact rfl); intro x3 hV hM; have hZ2 := HZ.out.trans hM; clear HZ HV hM; have HV := Lib.hid hV; have HZ := Lib.hid hZ2; clear hV hZ2)
  | ((with_reducible refine wpList_build_c ?_ 170 [(0, .func 179), (1, .func 180), (2, .func 181), (3, .func 182)] ?_ [(0, fnV 179), (1, fnV 180), (2, fnV 181), (3, fnV 182)] ?_ #[fnV 179, fnV 180, fnV 181, fnV 182] ?_ ?_); (iterate 3 exact rfl); (· kernel_rfl))
  | ((with_reducible refine wpList_insert_v ?_ (.tmp 16) (.const (.int .i64 24)) (.tmp 59) ?_ Tryz.underlying171 ?_ HV.out (by decide) ?_ (okKey_small (z := 24) (by decide) (by decide)) (val := kv24) ?_ ?_); (iterate 5 exact rfl); intro x3 hV hM; have hZ2 := HZ.out.trans hM; clear HZ HV hM; have HV := Lib.hid hV; have HZ := Lib.hid hZ2; clear hV hZ2)
  | ((with_reducible refine wpList_build_c ?_ 170 [(0, .func 184), (1, .func 158), (2, .func 185), (3, .tmp 60)] ?_ [(0, fnV 184), (1, fnV 158), (2, fnV 185), (3, fnV 142)] ?_ #[fnV 184, fnV 158, fnV 185, fnV 142] ?_ ?_); (iterate 3 exact rfl); (· kernel_rfl))
  | ((with_reducible refine wpList_insert_v ?_ (.tmp 16) (.const (.int .i64 25)) (.tmp 61) ?_ Tryz.underlying171 ?_ HV.out (by decide) ?_ (okKey_small (z := 25) (by decide) (by decide)) (val := kv25) ?_ ?_); (iterate 5 exact rfl); intro x3 hV hM; have hZ2 := HZ.out.trans hM; clear HZ HV hM; have HV := Lib.hid hV; have HZ := Lib.hid hZ2; clear hV hZ2)
  | ((with_reducible refine wpList_build_c ?_ 170 [(0, .tmp 62), (1, .tmp 63), (2, .tmp 64), (3, .tmp 65)] ?_ [(0, fnV 148), (1, fnV 155), (2, fnV 152), (3, fnV 144)] ?_ #[fnV 148, fnV 155, fnV 152, fnV 144] ?_ ?_); (iterate 3 exact rfl); (· kernel_rfl))
  | ((with_reducible refine wpList_insert_v ?_ (.tmp 16) (.const (.int .i64 26)) (.tmp 66) ?_ Tryz.underlying171 ?_ HV.out (by decide) ?_ (okKey_small (z := 26) (by decide) (by decide)) (val := kv26) ?_ ?_); (iterate 5 exact rfl); intro x3 hV hM; have hZ2 := HZ.out.trans hM; clear HZ HV hM; have HV := Lib.hid hV; have HZ := Lib.hid hZ2; clear hV hZ2)
  | ((with_reducible refine wpList_build_c ?_ 170 [(0, .tmp 67), (1, .tmp 68), (2, .tmp 69), (3, .tmp 70)] ?_ [(0, fnV 148), (1, fnV 155), (2, fnV 152), (3, fnV 144)] ?_ #[fnV 148, fnV 155, fnV 152, fnV 144] ?_ ?_); (iterate 3 exact rfl); (· kernel_rfl))
  | ((with_reducible refine wpList_insert_v ?_ (.tmp 16) (.const (.int .i64 27)) (.tmp 71) ?_ Tryz.underlying171 ?_ HV.out (by decide) ?_ (okKey_small (z := 27) (by decide) (by decide)) (val := kv27) ?_ ?_); (iterate 5 exact rfl); intro x3 hV hM; have hZ2 := HZ.out.trans hM; clear HZ HV hM; have HV := Lib.hid hV; have HZ := Lib.hid hZ2; clear hV hZ2)
  | ((with_reducible refine wpList_build_c ?_ 170 [(0, .func 186), (1, .func 187), (2, .func 188), (3, .func 189)] ?_ [(0, fnV 186), (1, fnV 187), (2, fnV 188), (3, fnV 189)] ?_ #[fnV 186, fnV 187, fnV 188, fnV 189] ?_ ?_); (iterate 3 exact rfl); (· kernel_rfl))
  | ((with_reducible refine wpList_insert_v ?_ (.tmp 16) (.const (.int .i64 28)) (.tmp 72) ?_ Tryz.underlying171 ?_ HV.out (by decide) ?_ (okKey_small (z := 28) (by decide) (by decide)) (val := kv28) ?_ ?_); (iterate 5 exact rfl); intro x3 hV hM; have hZ2 := HZ.out.trans hM; clear HZ HV hM; have HV := Lib.hid hV; have HZ := Lib.hid hZ2; clear hV hZ2)
  | fail)
 go_ret
 refine ⟨_, rfl, ?_, ?_⟩
 ·exact HV.out
 ·exact ((Mod.refl (fun _ => False) w).alloc _).trans' HZ.out (fun i hi e => by omega)
theorem VMap.look2 {t e : TypeId} {w : World} {mb n : Nat} {z : Int} {f : Int → Option Value} {zv : Value} (h : VMap w mb n f) (hz : okKey z) (ht : Tryz.prog.underlying t = some (.map 3 e)) (h0 : (zeroValue e).run Tryz.prog w = .ok zv w) :
  (Instr.lookup t (.map (some mb)) (.int .i64 z) true).run Tryz.prog w = .ok (.tuple #[(f z).getD zv, .bool (f z).isSome]) w := by
 obtain ⟨D, h1, h2, h3⟩ := h
 obtain ⟨v, ps, hr, hv⟩ := h1.look_ok lawInt ht h0 (zd := .held zv) (zp := []) rfl (okKey_key hz)
 rw [(h3 z hz).1 zv] at hv
 simp only [anyElem, Option.some.injEq, Prod.mk.injEq, DataW.held.injEq] at hv
 rw [hr, hv.1, (h3 z hz).2]
def kvZ : Value := .agg #[.nilFunc, .nilFunc, .nilFunc, .nilFunc]
theorem zero_kind (w : World) : (zeroValue 170).run Tryz.prog w = .ok kvZ w := by kernel_rfl
theorem kinds_none {y : Int} (h : maskK y = none) : kindsF y = none := by
 unfold kindsF
 rw [if_neg (by rintro rfl; exact absurd h (by decide))]
 rw [if_neg (by rintro rfl; exact absurd h (by decide))]
 rw [if_neg (by rintro rfl; exact absurd h (by decide))]
 rw [if_neg (by rintro rfl; exact absurd h (by decide))]
 rw [if_neg (by rintro rfl; exact absurd h (by decide))]
 rw [if_neg (by rintro rfl; exact absurd h (by decide))]
 rw [if_neg (by rintro rfl; exact absurd h (by decide))]
 rw [if_neg (by rintro rfl; exact absurd h (by decide))]
 rw [if_neg (by rintro rfl; exact absurd h (by decide))]
 rw [if_neg (by rintro rfl; exact absurd h (by decide))]
 rw [if_neg (by rintro rfl; exact absurd h (by decide))]
 rw [if_neg (by rintro rfl; exact absurd h (by decide))]
 rw [if_neg (by rintro rfl; exact absurd h (by decide))]
 rw [if_neg (by rintro rfl; exact absurd h (by decide))]
 rw [if_neg (by rintro rfl; exact absurd h (by decide))]
 rw [if_neg (by rintro rfl; exact absurd h (by decide))]
 rw [if_neg (by rintro rfl; exact absurd h (by decide))]
 rw [if_neg (by rintro rfl; exact absurd h (by decide))]
 rw [if_neg (by rintro rfl; exact absurd h (by decide))]
 rw [if_neg (by rintro rfl; exact absurd h (by decide))]
theorem wp_store_blk {P : Program} {op : Oper} {a : Act} {w : World} {K : Act → World → Prop} {Q : Exit → Act → World → Prop} (ty : TypeId) (x y : Operand) (ho : op.op = .store ty x y)
  (b : Nat) (hx : a.eval x = .pointer (some ⟨b, 0, none⟩)) (C cells : Array Value) (hy : a.eval y = .agg cells) (T : TypeId) (h : Blk w b C T) (hi : (P.info? ty).map (·.size) = some cells.size) (hl : C.size = cells.size) (h1 : ∀ v ∈ cells.toList, v.oneCell' = true)
  (k : ∀ w', Blk w' b cells T → Mod (fun k => k = b) w w' → K (a.put op.dst undef) w') : Oper.wp P op a w K Q := by
 obtain ⟨w', C', hr, hB, hs, he, hM⟩ := blk_store (P := P) 0 ty h hi (by omega) h1
 have e : C' = cells := by
  apply Array.toList_inj.1
  rw [he, List.drop_of_length_le (by simp; omega)]
  simp
 subst e
 unfold Oper.wp execOp
 simp only [ho, hx, hy, Instr.storeAt, Instr.sureAddr, Sem.run_bind, Sem.run_pure, Result.andThen_ok, hr]
 exact k w' hB hM
def Enter (fn : Nat) : Prop := ∀ (args : Array Value) (w : World), (callFunc fn args).run Tryz.prog w = .ok (.enter fn args) w
def Fr.noK (f : Fr) : Fr := ⟨0, f.id, f.a, f.b, f.c, f.fl, f.d, f.rs, f.t⟩
def HasK (fn : Nat) (m : Mk) : Prop := ∀ (w : World) (f : Fr) (vd vr : Value), FrV w f vd vr → Calls Tryz.prog fn #[frV f vd vr] w fun e w' => ∃ gd gr, e = .returned (frV (onlyF m f).noK gd gr) ∧ FrV w' (onlyF m f).noK gd gr ∧ Mod (fun _ => False) w w'
theorem kd_one {v3 v4 : Value} (fn1 fn2 : Nat) (h3 : v3.oneCell' = true) (h4 : v4.oneCell' = true) : ∀ v ∈ (#[fnV fn1, fnV fn2, v3, v4] : Array Value).toList, v.oneCell' = true := by
 intro v hv
 simp at hv
 rcases hv with rfl | rfl | rfl | rfl
 ·rfl
 ·rfl
 ·exact h3
 ·exact h4
theorem kdZ_one : ∀ v ∈ (#[.nilFunc, .nilFunc, .nilFunc, .nilFunc] : Array Value).toList, v.oneCell' = true := by
 intro v hv
 simp at hv
 subst hv
 rfl
theorem fr_setK (m : Mk) (f : Fr) (vd vr : Value) : (frC (onlyF m f).noK vd vr).setIfInBounds 0 (.int .i64 f.k) = frC (onlyF m f) vd vr := by
 apply Array.toList_inj.1; simp [frC, frL, Fr.noK, onlyF]
theorem right_top {f : Fr} (h : topB f = false) : rightF f = false := by
 unfold rightF
 split
 ·rfl
 ·rw [h]; rfl
theorem right_none {f : Fr} (h : maskK f.k = none) : rightF f = false := by unfold rightF; rw [h]
theorem right_some {f : Fr} {m : Mk} (h : maskK f.k = some m) (ht : topB f = true) : rightF f = (sameF f (onlyF m f) && okN f.k.toNat f) := by unfold rightF; rw [h]; simp [ht]
theorem run_max4 {P : Program} (ts : Array TypeId) (t : TypeId) (k : IntKind) (x y z u : Int) (w : World) : (Builtin.max_ ts t #[.int k x, .int k y, .int k z, .int k u]).run P w = .ok (.int k (max (max (max x y) z) u)) w := by
 simp [Builtin.max_, Builtin.max2]
 omega
theorem topB_no {f : Fr} (h : (4611686018427387903 : Int) < max (max (max (f.id : Int) f.a) f.b) f.c) : topB f = false := by
 cases hb : topB f
 ·rfl
 ·exfalso
  unfold topB topN at hb
  simp only [Bool.and_eq_true, decide_eq_true_eq] at hb
  omega
theorem topB_yes {f : Fr} (h : max (max (max (f.id : Int) f.a) f.b) f.c ≤ (4611686018427387903 : Int)) : topB f = true := by
 unfold topB topN
 simp only [Bool.and_eq_true, decide_eq_true_eq]
 omega
set_option maxHeartbeats 8000000 in
set_option maxRecDepth 10000 in
theorem right_no {w : World} {f : Fr} {vd vr : Value} (hv : FrV w f vd vr) (hm : maskK f.k = none) (hok : okKey f.k) : Calls Tryz.prog 95 #[frV f vd vr] w fun e w' => e = .returned (.bool (rightF f)) ∧ Mod (fun _ => False) w w' := by
 rw [right_none hm]
 have hv' := hv
 have HS0 : Hid (FrB (w.alloc (.cells (frC f vd vr) 91)).drew w.heap.size f vd vr ∧ Mod (fun _ => False) w (w.alloc (.cells (frC f vd vr) 91)).drew) := ⟨(FrB.new w f vd vr hv.t).kept (Mod.refl _ _).drew, ((Mod.refl _ w).alloc _).drew⟩
 have HLEN := Lib.hid hv.t
 have HV := Lib.hid hv
 have HKF := Lib.hid (kinds_none hm)
 have HOK := Lib.hid hok
 clear hv hv' hm hok
 unfold frV
 go_enter Tryz.func95, Tryz.ntmps95
 go_upto_region 1 with fail
 go_cut [3, 4] (fun s3 s4 wx => ∃ kb, s3 = .pointer (some ⟨kb, 0, none⟩) ∧ s4 = .bool false ∧ Hid (Blk wx kb #[.nilFunc, .nilFunc, .nilFunc, .nilFunc] 170 ∧ FrB wx w.heap.size f vd vr ∧ Mod (fun _ => False) w wx))
 case first =>
  refine wp_region_held_drew (S := fun X => FrB X w.heap.size f vd vr ∧ Mod (fun _ => False) w X) (by kernel_rfl) HS0.out (fun hS => ?_)
  refine tk 1 (.pointer (some ⟨w.heap.size, 0, none⟩)) (some 8) rfl rfl (by kernel_rfl) (fun _ _ _ => id) (Or.inl ⟨by rfl, fun X hX => ?_⟩) hS ?_
  ·go_simp
  (try go_frame); refine tk 2 (.int .i64 f.k) (some 9) rfl rfl (by kernel_rfl) (fun _ _ _ => id) (Or.inl ⟨by rfl, fun X hX => ?_⟩) hS ?_
  ·have := hX.1.cells.1; go_simp
  (try go_frame); refine wpAnyH_ready (rs := [0, 7]) (by kernel_rfl) (by simp) ?_
  refine AllReadyH.cons rfl (fun K hK => ?_) (AllReadyH.cons rfl (fun K hK => ?_) AllReadyH.nil)
  ·go_simp
   refine (kinds_any _).mono ?_
   rintro e X1 ⟨mb, rfl, hV, hk1⟩
   have hlk := hV.look2 (t := 171) (e := 170) HOK.out Tryz.underlying171 (zero_kind X1)
   rw [HKF.out] at hlk
   simp only [Option.getD_none, Option.isSome_none, kvZ] at hlk
   refine hK.out _ _ ⟨hS.1.kept hk1, hS.2.trans hk1⟩ (fun hS => ?_)
   clear hK K
   refine wpAnyH_ready (rs := [3, 7]) (by kernel_rfl) (by simp) ?_
   refine AllReadyH.cons rfl (fun K hK => ?_) (AllReadyH.cons rfl (fun K hK => ?_) AllReadyH.nil)
   ·go_simp
    refine hK.out _ _ hS (fun hS => ?_)
    clear hK K
    refine tk 4 (.tuple #[.agg #[.nilFunc, .nilFunc, .nilFunc, .nilFunc], .bool false]) (some 6) rfl rfl (by kernel_rfl) (fun _ _ _ => id) (Or.inl ⟨by rfl, fun X hX => ?_⟩) hS ?_
    ·go_simp
    (try go_frame); refine tk 5 (.agg #[.nilFunc, .nilFunc, .nilFunc, .nilFunc]) (some 11) rfl rfl (by kernel_rfl) (fun _ _ _ => id) (Or.inl ⟨by rfl, fun X hX => ?_⟩) hS ?_
    ·go_simp
    (try go_frame); refine tk 6 (.bool false) (some 12) rfl rfl (by kernel_rfl) (fun _ _ _ => id) (Or.inl ⟨by rfl, fun X hX => ?_⟩) hS ?_
    ·go_simp
    (try go_frame); refine wpAnyH_ready (rs := [7]) (by kernel_rfl) (by simp) ?_
    refine arH rfl fun K hK => ?_
    go_simp
    have hb7 := Blk.new X1 #[.nilFunc, .nilFunc, .nilFunc, .nilFunc] 170
    have hk7 := (Mod.refl (fun _ => False) X1).alloc (.cells #[.nilFunc, .nilFunc, .nilFunc, .nilFunc] 170)
    have hlt := hS.1.blk.lt
    have hsz := hS.2.size
    refine hK.out _ _ ⟨hS.1.kept hk7, hS.2.trans hk7⟩ (fun hS => ?_)
    clear hK K
    refine wpAnyH_ready (rs := [8]) (by kernel_rfl) (by simp) ?_
    refine arH rfl fun K hK => ?_
    refine wp_store_blk 170 (.tmp 3) (.tmp 11) rfl X1.heap.size (by rfl) #[.nilFunc, .nilFunc, .nilFunc, .nilFunc] #[.nilFunc, .nilFunc, .nilFunc, .nilFunc] (by rfl) 170 hb7 (sizeKd _ _ _ _) rfl kdZ_one ?_
    intro X9 hB9 hM9
    have hM9' : Mod (fun _ => False) w X9 := hS.2.trans' hM9 (fun i hi e => by omega)
    have hF9 := hM9.blk hS.1.blk (by omega)
    refine hK.out _ _ ⟨⟨hF9, HLEN.out⟩, hM9'⟩ (fun hS => ?_)
    clear hK K
    refine wpAnyH_ready (rs := [9]) (by kernel_rfl) (by simp) ?_
    refine arH rfl fun K hK => ?_
    go_simp
    refine hK.out _ _ hS (fun hS => ?_)
    clear hK K
    refine wpAnyH_done (by kernel_rfl) ?_ _
    go_wp2_with fail
    go_meet
    exact ⟨X1.heap.size, rfl, rfl, ⟨hB9, hS.1, hS.2⟩⟩
   ·go_simp
    have hb7 := Blk.new X1 #[.nilFunc, .nilFunc, .nilFunc, .nilFunc] 170
    have hk7 := (Mod.refl (fun _ => False) X1).alloc (.cells #[.nilFunc, .nilFunc, .nilFunc, .nilFunc] 170)
    have hV7 := hV.kept hk7 (fun h => h)
    have hlk7 := hV7.look2 (t := 171) (e := 170) HOK.out Tryz.underlying171 (zero_kind _)
    rw [HKF.out] at hlk7
    simp only [Option.getD_none, Option.isSome_none, kvZ] at hlk7
    have hlt := hS.1.blk.lt
    have hsz := hS.2.size
    refine hK.out _ _ ⟨hS.1.kept hk7, hS.2.trans hk7⟩ (fun hS => ?_)
    clear hK K
    refine wpAnyH_ready (rs := [3]) (by kernel_rfl) (by simp) ?_
    refine arH rfl fun K hK => ?_
    go_simp
    refine hK.out _ _ hS (fun hS => ?_)
    clear hK K
    refine tk 4 (.tuple #[.agg #[.nilFunc, .nilFunc, .nilFunc, .nilFunc], .bool false]) (some 6) rfl rfl (by kernel_rfl) (fun _ _ _ => id) (Or.inl ⟨by rfl, fun X hX => ?_⟩) hS ?_
    ·go_simp
    (try go_frame); refine tk 5 (.agg #[.nilFunc, .nilFunc, .nilFunc, .nilFunc]) (some 11) rfl rfl (by kernel_rfl) (fun _ _ _ => id) (Or.inl ⟨by rfl, fun X hX => ?_⟩) hS ?_
    ·go_simp
    (try go_frame); refine tk 6 (.bool false) (some 12) rfl rfl (by kernel_rfl) (fun _ _ _ => id) (Or.inl ⟨by rfl, fun X hX => ?_⟩) hS ?_
    ·go_simp
    (try go_frame); refine wpAnyH_ready (rs := [8]) (by kernel_rfl) (by simp) ?_
    refine arH rfl fun K hK => ?_
    refine wp_store_blk 170 (.tmp 3) (.tmp 11) rfl X1.heap.size (by rfl) #[.nilFunc, .nilFunc, .nilFunc, .nilFunc] #[.nilFunc, .nilFunc, .nilFunc, .nilFunc] (by rfl) 170 hb7 (sizeKd _ _ _ _) rfl kdZ_one ?_
    intro X9 hB9 hM9
    have hM9' : Mod (fun _ => False) w X9 := hS.2.trans' hM9 (fun i hi e => by omega)
    have hF9 := hM9.blk hS.1.blk (by omega)
    refine hK.out _ _ ⟨⟨hF9, HLEN.out⟩, hM9'⟩ (fun hS => ?_)
    clear hK K
    refine wpAnyH_ready (rs := [9]) (by kernel_rfl) (by simp) ?_
    refine arH rfl fun K hK => ?_
    go_simp
    refine hK.out _ _ hS (fun hS => ?_)
    clear hK K
    refine wpAnyH_done (by kernel_rfl) ?_ _
    go_wp2_with fail
    go_meet
    exact ⟨X1.heap.size, rfl, rfl, ⟨hB9, hS.1, hS.2⟩⟩
  ·go_simp
   have hb7 : Blk _ (w.heap.size + 1) #[.nilFunc, .nilFunc, .nilFunc, .nilFunc] 170 := (Mod.refl (fun _ => False) _).drew.blk (new2 w (.cells (frC f vd vr) 91) #[.nilFunc, .nilFunc, .nilFunc, .nilFunc] 170) (fun h => h)
   clear hS
   refine hK.out _ _ ⟨(FrB.new w f vd vr HLEN.out).kept ((Mod.refl _ _).alloc _).drew, (((Mod.refl _ w).alloc _).alloc _).drew⟩ (fun hS => ?_)
   clear hK K
   refine wpAnyH_ready (rs := [0]) (by kernel_rfl) (by simp) ?_
   refine arH rfl fun K hK => ?_
   go_simp
   refine (kinds_any _).mono ?_
   rintro e X1 ⟨mb, rfl, hV, hk1⟩
   have hlk := hV.look2 (t := 171) (e := 170) HOK.out Tryz.underlying171 (zero_kind X1)
   rw [HKF.out] at hlk
   simp only [Option.getD_none, Option.isSome_none, kvZ] at hlk
   have hb8 := hk1.blk hb7 (fun h => h)
   refine hK.out _ _ ⟨hS.1.kept hk1, hS.2.trans hk1⟩ (fun hS => ?_)
   clear hK K
   refine wpAnyH_ready (rs := [3]) (by kernel_rfl) (by simp) ?_
   refine arH rfl fun K hK => ?_
   go_simp
   refine hK.out _ _ hS (fun hS => ?_)
   clear hK K
   refine tk 4 (.tuple #[.agg #[.nilFunc, .nilFunc, .nilFunc, .nilFunc], .bool false]) (some 6) rfl rfl (by kernel_rfl) (fun _ _ _ => id) (Or.inl ⟨by rfl, fun X hX => ?_⟩) hS ?_
   ·go_simp
   (try go_frame); refine tk 5 (.agg #[.nilFunc, .nilFunc, .nilFunc, .nilFunc]) (some 11) rfl rfl (by kernel_rfl) (fun _ _ _ => id) (Or.inl ⟨by rfl, fun X hX => ?_⟩) hS ?_
   ·go_simp
   (try go_frame); refine tk 6 (.bool false) (some 12) rfl rfl (by kernel_rfl) (fun _ _ _ => id) (Or.inl ⟨by rfl, fun X hX => ?_⟩) hS ?_
   ·go_simp
   (try go_frame); refine wpAnyH_ready (rs := [8]) (by kernel_rfl) (by simp) ?_
   refine arH rfl fun K hK => ?_
   refine wp_store_blk 170 (.tmp 3) (.tmp 11) rfl (w.heap.size + 1) (by rfl) #[.nilFunc, .nilFunc, .nilFunc, .nilFunc] #[.nilFunc, .nilFunc, .nilFunc, .nilFunc] (by rfl) 170 hb8 (sizeKd _ _ _ _) rfl kdZ_one ?_
   intro X9 hB9 hM9
   have hM9' : Mod (fun _ => False) w X9 := hS.2.trans' hM9 (fun i hi e => by omega)
   have hF9 := hM9.blk hS.1.blk (by omega)
   refine hK.out _ _ ⟨⟨hF9, HLEN.out⟩, hM9'⟩ (fun hS => ?_)
   clear hK K
   refine wpAnyH_ready (rs := [9]) (by kernel_rfl) (by simp) ?_
   refine arH rfl fun K hK => ?_
   go_simp
   refine hK.out _ _ hS (fun hS => ?_)
   clear hK K
   refine wpAnyH_done (by kernel_rfl) ?_ _
   go_wp2_with fail
   go_meet
   exact ⟨(w.heap.size + 1), rfl, rfl, ⟨hB9, hS.1, hS.2⟩⟩
 case rest =>
  obtain ⟨kb, rfl, rfl, HC⟩ := hcut
  go_wp2_with fail
  go_ret
  exact ⟨rfl, HC.out.2.2⟩
set_option maxHeartbeats 16000000 in
set_option maxRecDepth 10000 in
theorem right_kind {w : World} {f : Fr} {vd vr : Value} (hv : FrV w f vd vr) (hrl : (f.rs.length : Int) ≤ 100000) {m : Mk} (hm : maskK f.k = some m) {fn1 fn2 : Nat} {v3 v4 : Value} (hkf : kindsF f.k = some (.agg #[fnV fn1, fnV fn2, v3, v4]))
  (h1 : HasK fn1 m) (h2 : ∀ X, Mod (fun _ => False) w X → topB f = true → Calls Tryz.prog fn2 #[frV f vd vr] X fun e w' => e = .returned (.bool (okN f.k.toNat f)) ∧ Mod (fun _ => False) X w') (en1 : Enter fn1) (en2 : Enter fn2) (o3 : v3.oneCell' = true) (o4 : v4.oneCell' = true) (hok : okKey f.k) :
  Calls Tryz.prog 95 #[frV f vd vr] w fun e w' => e = .returned (.bool (rightF f)) ∧ Mod (fun _ => False) w w' := by
 have hv' := hv
 have HS0 : Hid (FrB (w.alloc (.cells (frC f vd vr) 91)).drew w.heap.size f vd vr ∧ Mod (fun _ => False) w (w.alloc (.cells (frC f vd vr) 91)).drew) := ⟨(FrB.new w f vd vr hv.t).kept (Mod.refl _ _).drew, ((Mod.refl _ w).alloc _).drew⟩
 have HLEN := Lib.hid hv.t
 have HV := Lib.hid hv
 have HKF := Lib.hid hkf
 have HOK := Lib.hid hok
 have HM := Lib.hid hm
 have H1 := Lib.hid h1
 have H2 := Lib.hid h2
 have HRL := Lib.hid hrl
 have HONE := Lib.hid (kd_one fn1 fn2 o3 o4)
 unfold Enter at en1 en2
 clear hv hv' hm hok hkf h1 h2 hrl o3 o4
 unfold frV
 go_enter Tryz.func95, Tryz.ntmps95
 go_upto_region 1 with fail
 go_cut [3, 4] (fun s3 s4 wx => ∃ kb, s3 = .pointer (some ⟨kb, 0, none⟩) ∧ s4 = .bool true ∧ Hid (Blk wx kb #[fnV fn1, fnV fn2, v3, v4] 170 ∧ FrB wx w.heap.size f vd vr ∧ Mod (fun _ => False) w wx))
 case first =>
  refine wp_region_held_drew (S := fun X => FrB X w.heap.size f vd vr ∧ Mod (fun _ => False) w X) (by kernel_rfl) HS0.out (fun hS => ?_)
  refine tk 1 (.pointer (some ⟨w.heap.size, 0, none⟩)) (some 8) rfl rfl (by kernel_rfl) (fun _ _ _ => id) (Or.inl ⟨by rfl, fun X hX => ?_⟩) hS ?_
  ·go_simp
  (try go_frame); refine tk 2 (.int .i64 f.k) (some 9) rfl rfl (by kernel_rfl) (fun _ _ _ => id) (Or.inl ⟨by rfl, fun X hX => ?_⟩) hS ?_
  ·have := hX.1.cells.1; go_simp
  (try go_frame); refine wpAnyH_ready (rs := [0, 7]) (by kernel_rfl) (by simp) ?_
  refine AllReadyH.cons rfl (fun K hK => ?_) (AllReadyH.cons rfl (fun K hK => ?_) AllReadyH.nil)
  ·go_simp
   refine (kinds_any _).mono ?_
   rintro e X1 ⟨mb, rfl, hV, hk1⟩
   have hlk := hV.look2 (t := 171) (e := 170) HOK.out Tryz.underlying171 (zero_kind X1)
   rw [HKF.out] at hlk
   simp only [Option.getD_some, Option.isSome_some] at hlk
   refine hK.out _ _ ⟨hS.1.kept hk1, hS.2.trans hk1⟩ (fun hS => ?_)
   clear hK K
   refine wpAnyH_ready (rs := [3, 7]) (by kernel_rfl) (by simp) ?_
   refine AllReadyH.cons rfl (fun K hK => ?_) (AllReadyH.cons rfl (fun K hK => ?_) AllReadyH.nil)
   ·go_simp
    refine hK.out _ _ hS (fun hS => ?_)
    clear hK K
    refine tk 4 (.tuple #[.agg #[fnV fn1, fnV fn2, v3, v4], .bool true]) (some 6) rfl rfl (by kernel_rfl) (fun _ _ _ => id) (Or.inl ⟨by rfl, fun X hX => ?_⟩) hS ?_
    ·go_simp
    (try go_frame); refine tk 5 (.agg #[fnV fn1, fnV fn2, v3, v4]) (some 11) rfl rfl (by kernel_rfl) (fun _ _ _ => id) (Or.inl ⟨by rfl, fun X hX => ?_⟩) hS ?_
    ·go_simp
    (try go_frame); refine tk 6 (.bool true) (some 12) rfl rfl (by kernel_rfl) (fun _ _ _ => id) (Or.inl ⟨by rfl, fun X hX => ?_⟩) hS ?_
    ·go_simp
    (try go_frame); refine wpAnyH_ready (rs := [7]) (by kernel_rfl) (by simp) ?_
    refine arH rfl fun K hK => ?_
    go_simp
    have hb7 := Blk.new X1 #[.nilFunc, .nilFunc, .nilFunc, .nilFunc] 170
    have hk7 := (Mod.refl (fun _ => False) X1).alloc (.cells #[.nilFunc, .nilFunc, .nilFunc, .nilFunc] 170)
    have hlt := hS.1.blk.lt
    have hsz := hS.2.size
    refine hK.out _ _ ⟨hS.1.kept hk7, hS.2.trans hk7⟩ (fun hS => ?_)
    clear hK K
    refine wpAnyH_ready (rs := [8]) (by kernel_rfl) (by simp) ?_
    refine arH rfl fun K hK => ?_
    refine wp_store_blk 170 (.tmp 3) (.tmp 11) rfl X1.heap.size (by rfl) #[.nilFunc, .nilFunc, .nilFunc, .nilFunc] #[fnV fn1, fnV fn2, v3, v4] (by rfl) 170 hb7 (sizeKd _ _ _ _) rfl HONE.out ?_
    intro X9 hB9 hM9
    have hM9' : Mod (fun _ => False) w X9 := hS.2.trans' hM9 (fun i hi e => by omega)
    have hF9 := hM9.blk hS.1.blk (by omega)
    refine hK.out _ _ ⟨⟨hF9, HLEN.out⟩, hM9'⟩ (fun hS => ?_)
    clear hK K
    refine wpAnyH_ready (rs := [9]) (by kernel_rfl) (by simp) ?_
    refine arH rfl fun K hK => ?_
    go_simp
    refine hK.out _ _ hS (fun hS => ?_)
    clear hK K
    refine wpAnyH_done (by kernel_rfl) ?_ _
    go_wp2_with fail
    go_meet
    exact ⟨X1.heap.size, rfl, rfl, ⟨hB9, hS.1, hS.2⟩⟩
   ·go_simp
    have hb7 := Blk.new X1 #[.nilFunc, .nilFunc, .nilFunc, .nilFunc] 170
    have hk7 := (Mod.refl (fun _ => False) X1).alloc (.cells #[.nilFunc, .nilFunc, .nilFunc, .nilFunc] 170)
    have hV7 := hV.kept hk7 (fun h => h)
    have hlk7 := hV7.look2 (t := 171) (e := 170) HOK.out Tryz.underlying171 (zero_kind _)
    rw [HKF.out] at hlk7
    simp only [Option.getD_some, Option.isSome_some] at hlk7
    have hlt := hS.1.blk.lt
    have hsz := hS.2.size
    refine hK.out _ _ ⟨hS.1.kept hk7, hS.2.trans hk7⟩ (fun hS => ?_)
    clear hK K
    refine wpAnyH_ready (rs := [3]) (by kernel_rfl) (by simp) ?_
    refine arH rfl fun K hK => ?_
    go_simp
    refine hK.out _ _ hS (fun hS => ?_)
    clear hK K
    refine tk 4 (.tuple #[.agg #[fnV fn1, fnV fn2, v3, v4], .bool true]) (some 6) rfl rfl (by kernel_rfl) (fun _ _ _ => id) (Or.inl ⟨by rfl, fun X hX => ?_⟩) hS ?_
    ·go_simp
    (try go_frame); refine tk 5 (.agg #[fnV fn1, fnV fn2, v3, v4]) (some 11) rfl rfl (by kernel_rfl) (fun _ _ _ => id) (Or.inl ⟨by rfl, fun X hX => ?_⟩) hS ?_
    ·go_simp
    (try go_frame); refine tk 6 (.bool true) (some 12) rfl rfl (by kernel_rfl) (fun _ _ _ => id) (Or.inl ⟨by rfl, fun X hX => ?_⟩) hS ?_
    ·go_simp
    (try go_frame); refine wpAnyH_ready (rs := [8]) (by kernel_rfl) (by simp) ?_
    refine arH rfl fun K hK => ?_
    refine wp_store_blk 170 (.tmp 3) (.tmp 11) rfl X1.heap.size (by rfl) #[.nilFunc, .nilFunc, .nilFunc, .nilFunc] #[fnV fn1, fnV fn2, v3, v4] (by rfl) 170 hb7 (sizeKd _ _ _ _) rfl HONE.out ?_
    intro X9 hB9 hM9
    have hM9' : Mod (fun _ => False) w X9 := hS.2.trans' hM9 (fun i hi e => by omega)
    have hF9 := hM9.blk hS.1.blk (by omega)
    refine hK.out _ _ ⟨⟨hF9, HLEN.out⟩, hM9'⟩ (fun hS => ?_)
    clear hK K
    refine wpAnyH_ready (rs := [9]) (by kernel_rfl) (by simp) ?_
    refine arH rfl fun K hK => ?_
    go_simp
    refine hK.out _ _ hS (fun hS => ?_)
    clear hK K
    refine wpAnyH_done (by kernel_rfl) ?_ _
    go_wp2_with fail
    go_meet
    exact ⟨X1.heap.size, rfl, rfl, ⟨hB9, hS.1, hS.2⟩⟩
  ·go_simp
   have hb7 : Blk _ (w.heap.size + 1) #[.nilFunc, .nilFunc, .nilFunc, .nilFunc] 170 := (Mod.refl (fun _ => False) _).drew.blk (new2 w (.cells (frC f vd vr) 91) #[.nilFunc, .nilFunc, .nilFunc, .nilFunc] 170) (fun h => h)
   clear hS
   refine hK.out _ _ ⟨(FrB.new w f vd vr HLEN.out).kept ((Mod.refl _ _).alloc _).drew, (((Mod.refl _ w).alloc _).alloc _).drew⟩ (fun hS => ?_)
   clear hK K
   refine wpAnyH_ready (rs := [0]) (by kernel_rfl) (by simp) ?_
   refine arH rfl fun K hK => ?_
   go_simp
   refine (kinds_any _).mono ?_
   rintro e X1 ⟨mb, rfl, hV, hk1⟩
   have hlk := hV.look2 (t := 171) (e := 170) HOK.out Tryz.underlying171 (zero_kind X1)
   rw [HKF.out] at hlk
   simp only [Option.getD_some, Option.isSome_some] at hlk
   have hb8 := hk1.blk hb7 (fun h => h)
   refine hK.out _ _ ⟨hS.1.kept hk1, hS.2.trans hk1⟩ (fun hS => ?_)
   clear hK K
   refine wpAnyH_ready (rs := [3]) (by kernel_rfl) (by simp) ?_
   refine arH rfl fun K hK => ?_
   go_simp
   refine hK.out _ _ hS (fun hS => ?_)
   clear hK K
   refine tk 4 (.tuple #[.agg #[fnV fn1, fnV fn2, v3, v4], .bool true]) (some 6) rfl rfl (by kernel_rfl) (fun _ _ _ => id) (Or.inl ⟨by rfl, fun X hX => ?_⟩) hS ?_
   ·go_simp
   (try go_frame); refine tk 5 (.agg #[fnV fn1, fnV fn2, v3, v4]) (some 11) rfl rfl (by kernel_rfl) (fun _ _ _ => id) (Or.inl ⟨by rfl, fun X hX => ?_⟩) hS ?_
   ·go_simp
   (try go_frame); refine tk 6 (.bool true) (some 12) rfl rfl (by kernel_rfl) (fun _ _ _ => id) (Or.inl ⟨by rfl, fun X hX => ?_⟩) hS ?_
   ·go_simp
   (try go_frame); refine wpAnyH_ready (rs := [8]) (by kernel_rfl) (by simp) ?_
   refine arH rfl fun K hK => ?_
   refine wp_store_blk 170 (.tmp 3) (.tmp 11) rfl (w.heap.size + 1) (by rfl) #[.nilFunc, .nilFunc, .nilFunc, .nilFunc] #[fnV fn1, fnV fn2, v3, v4] (by rfl) 170 hb8 (sizeKd _ _ _ _) rfl HONE.out ?_
   intro X9 hB9 hM9
   have hM9' : Mod (fun _ => False) w X9 := hS.2.trans' hM9 (fun i hi e => by omega)
   have hF9 := hM9.blk hS.1.blk (by omega)
   refine hK.out _ _ ⟨⟨hF9, HLEN.out⟩, hM9'⟩ (fun hS => ?_)
   clear hK K
   refine wpAnyH_ready (rs := [9]) (by kernel_rfl) (by simp) ?_
   refine arH rfl fun K hK => ?_
   go_simp
   refine hK.out _ _ hS (fun hS => ?_)
   clear hK K
   refine wpAnyH_done (by kernel_rfl) ?_ _
   go_wp2_with fail
   go_meet
   exact ⟨(w.heap.size + 1), rfl, rfl, ⟨hB9, hS.1, hS.2⟩⟩
 case rest =>
  obtain ⟨kb, rfl, rfl, HC⟩ := hcut
  obtain ⟨c0, c1, c2, c3, c4, c5, c6, c7⟩ := HC.out.2.1.cells
  have k0 : wc.cell? ⟨kb, 0, none⟩ = some (.func (.func fn1) #[] #[]) := HC.out.1.cellAt 0 rfl
  have k1 : wc.cell? ⟨kb, 1, none⟩ = some (.func (.func fn2) #[] #[]) := HC.out.1.cellAt 1 rfl
  have LW := Lib.hid (blk_loadAt HC.out.2.1)
  have hmx := fun (ts : Array TypeId) (t : TypeId) (X : World) => run_max4 (P := Tryz.prog) ts t .u64 (f.id : Int) f.a f.b f.c X
  obtain ⟨M, hM⟩ : ∃ M, M = max (max (max (f.id : Int) f.a) f.b) f.c := ⟨_, rfl⟩
  rw [← hM] at hmx
  have HMX := Lib.hid hM
  clear c5 c6 c7 hM
  go_wp2_with (first
   | ((with_reducible refine wpList_load_v 91 (.tmp 1) ?_ ?_ (.pointer (some ⟨w.heap.size, 0, none⟩)) (frV f vd vr) ?_ LW.out ?_); (iterate 3 exact rfl))
   | fail)
  ·go_ret
   refine ⟨ret_bool ?_, HC.out.2.2⟩
   exact (right_top (topB_no (by rw [← HMX.out]; assumption))).symm
  ·have HTB := Lib.hid (show topB f = true from topB_yes (by rw [← HMX.out]; assumption))
   refine (H1.out wc f vd vr (HV.out.kept HC.out.2.2)).mono ?_
   rintro e X1 ⟨gd, gr, rfl, hg, hk1⟩
   have HG := Lib.hid hg
   have HK1 := Lib.hid hk1
   have d0 := hk1.cellAt c0 (fun h => h)
   have m1 := hk1.cellAt k1 (fun h => h)
   have HONE2 := Lib.hid (frC_one hg)
   have HSZ := Lib.hid (sizeFr (onlyF m f).noK gd gr hg.t)
   have HSS : Hid (frZ.size = (frC (onlyF m f).noK gd gr).size) := (frC_size _ gd gr hg.t).symm
   have hg16 := Lib.hid hg.t
   clear hg hk1 c0 c1 c2 c3 c4 k0 k1 LW
   unfold frV
   go_wp2_with (first
    | ((with_reducible refine wpList_store_blk ?_ 91 (.tmp 5) (.tmp 30) ?_ X1.heap.size ?_ frZ (frC (onlyF m f).noK gd gr) ?_ 91 (Blk.new _ _ _) HSZ.out HSS.out HONE2.out ?_); (iterate 4 exact rfl); intro X2 hB2 hM2; have HM2 := Lib.hid (((Mod.refl (fun _ => False) X1).alloc _).trans' hM2 (fun i hi e => by omega)); have d0' := HM2.out.cellAt d0 (fun h => h); have m1' := HM2.out.cellAt m1 (fun h => h); have b0 : X2.cell? ⟨X1.heap.size, 0, none⟩ = some (.int .i64 0) := hB2.cellAt 0 rfl; have f0 := hB2.free 0; have HB2 := Lib.hid hB2; clear hB2 hM2 d0 m1; have LW1 : Hid (∀ v, (Instr.loadAt 91 (.pointer (some ⟨w.heap.size, 0, none⟩))).run Tryz.prog (X2.setCell ⟨X1.heap.size, 0, none⟩ v) = .ok (frV f vd vr) (X2.setCell ⟨X1.heap.size, 0, none⟩ v)) := (fun v => blk_loadAt (FrB.mk (((HC.out.2.1.kept HK1.out).kept HM2.out).blk.setOther (Nat.ne_of_lt (HC.out.2.1.kept HK1.out).blk.lt) v) HLEN.out)); have LW2 : Hid ((Instr.loadAt 91 (.pointer (some ⟨X1.heap.size, 0, none⟩))).run Tryz.prog (X2.setCell ⟨X1.heap.size, 0, none⟩ (.int .i64 f.k)) = .ok (frV (onlyF m f) gd gr) (X2.setCell ⟨X1.heap.size, 0, none⟩ (.int .i64 f.k))) := (blk_loadAt (f := onlyF m f) ⟨(fr_setK m f gd gr) ▸ HB2.out.set 0 _, hg16.out⟩))
    | ((with_reducible refine wpList_load_v 91 (.tmp 1) ?_ ?_ (.pointer (some ⟨w.heap.size, 0, none⟩)) (frV f vd vr) ?_ (LW1.out _) ?_); (iterate 3 exact rfl))
    | ((with_reducible refine wpList_load_v 91 (.tmp 5) ?_ ?_ (.pointer (some ⟨X1.heap.size, 0, none⟩)) (frV (onlyF m f) gd gr) ?_ LW2.out ?_); (iterate 3 exact rfl))
    | fail)
   have HM3 : Hid (Mod (fun _ => False) wc (X2.setCell ⟨X1.heap.size, 0, none⟩ (.int .i64 f.k))) := (HK1.out.trans HM2.out).setCell (fun h => by have := HK1.out.size; exact absurd h (by show ¬ X1.heap.size < _; omega)) _
   have HG3 : Hid (FrV (X2.setCell ⟨X1.heap.size, 0, none⟩ (.int .i64 f.k)) (onlyF m f) gd gr) := by
    have h := HG.out.kept (HM2.out.setCell (p := ⟨X1.heap.size, 0, none⟩) (fun h => absurd h (Nat.lt_irrefl _)) (.int .i64 f.k))
    exact ⟨h.d, h.r, h.t, h.dl, h.rl⟩
   have HV3 := Lib.hid ((HV.out.kept HC.out.2.2).kept HM3.out)
   have m2 := ((HM2.out.setCell (p := ⟨X1.heap.size, 0, none⟩) (fun h => absurd h (Nat.lt_irrefl _)) (.int .i64 f.k)).trans (Mod.refl _ _)).cellAt (show X1.cell? ⟨kb, 1, none⟩ = _ from HK1.out.cellAt (HC.out.1.cellAt 1 rfl) (fun h => h)) (fun h => h)
   have HRL2 : Hid (((onlyF m f).rs.length : Int) ≤ 100000) := by
    have := HRL.out
    show ((onlyF m f).rs.length : Int) ≤ 100000
    unfold onlyF
    cases m.r
    ·simp
    ·simpa using this
   have LWB := Lib.hid (FrB.mk (f := f) (vd := vd) (vr := vr) (((HC.out.2.1.kept HK1.out).kept HM2.out).blk.setOther (a := ⟨X1.heap.size, 0, none⟩) (Nat.ne_of_lt (HC.out.2.1.kept HK1.out).blk.lt) (.int .i64 f.k)) HLEN.out)
   clear d0' m1' b0 f0 LW1 LW2 HB2 HM2
   generalize X2.setCell ⟨X1.heap.size, 0, none⟩ (.int .i64 f.k) = X3 at *
   refine (same_fr HV3.out HG3.out HRL.out HRL2.out).mono ?_
   rintro e X4 ⟨rfl, hk4⟩
   have HRR := Lib.hid (right_some HM.out HTB.out)
   have HK4 := Lib.hid hk4
   have n1 : X4.cell? ⟨kb, 1, none⟩ = some (.func (.func fn2) #[] #[]) := hk4.cellAt m2 (fun h => h)
   have LW4 := Lib.hid (blk_loadAt (LWB.out.kept hk4))
   clear hk4 m2
   generalize hsm : sameF f (onlyF m f) = b at *
   cases b
   ·clear hsm
    go_wp2_with fail
    go_ret
    refine ⟨ret_bool ?_, (HC.out.2.2.trans HM3.out).trans HK4.out⟩
    rw [HRR.out]; rfl
   ·clear hsm
    go_wp2_with (first
     | ((with_reducible refine wpList_load_v 91 (.tmp 1) ?_ ?_ (.pointer (some ⟨w.heap.size, 0, none⟩)) (frV f vd vr) ?_ LW4.out ?_); (iterate 3 exact rfl))
     | fail)
    refine (H2.out X4 ((HC.out.2.2.trans HM3.out).trans HK4.out) HTB.out).mono ?_
    rintro e X5 ⟨rfl, hk5⟩
    go_wp2_with fail
    go_ret
    refine ⟨ret_bool ?_, ((HC.out.2.2.trans HM3.out).trans HK4.out).trans hk5⟩
    rw [HRR.out]; simp
end Go.Proofs.YtahgidkpjmecdaaGreatDoor
set_option maxRecDepth 100000
namespace Go.Proofs.YtahgidkpjmecdaaGreatDoor
open Go.RowKit
theorem hask5 : HasK 145 ⟨false, true, false, false, false, false, false, false⟩ := by
 intro w f vd vr hv
 refine (has5 hv).mono ?_
 rintro e w' ⟨rfl, hM⟩
 exact ⟨_, _, rfl, ⟨Sl.nil _ _, Sl.nil _ _, rfl, by simp [onlyF, Fr.noK], by simp [onlyF, Fr.noK]⟩, hM⟩
theorem ent5 : Enter 145 := fun _ _ => by kernel_rfl
theorem hask6 : HasK 146 ⟨true, true, false, false, false, false, false, false⟩ := by
 intro w f vd vr hv
 refine (has6 hv).mono ?_
 rintro e w' ⟨rfl, hM⟩
 exact ⟨_, _, rfl, ⟨Sl.nil _ _, Sl.nil _ _, rfl, by simp [onlyF, Fr.noK], by simp [onlyF, Fr.noK]⟩, hM⟩
theorem ent6 : Enter 146 := fun _ _ => by kernel_rfl
theorem hask19 : HasK 163 ⟨true, true, false, true, false, false, false, false⟩ := by
 intro w f vd vr hv
 refine (has19 hv).mono ?_
 rintro e w' ⟨rfl, hM⟩
 exact ⟨_, _, rfl, ⟨Sl.nil _ _, Sl.nil _ _, rfl, by simp [onlyF, Fr.noK], by simp [onlyF, Fr.noK]⟩, hM⟩
theorem ent19 : Enter 163 := fun _ _ => by kernel_rfl
theorem hask31 : HasK 177 ⟨true, true, false, false, true, true, false, false⟩ := by
 intro w f vd vr hv
 refine (has31 hv).mono ?_
 rintro e w' ⟨rfl, hM⟩
 exact ⟨_, _, rfl, ⟨byts_kept hv.d hM, Sl.nil _ _, rfl, hv.dl, by simp [onlyF, Fr.noK]⟩, hM⟩
theorem ent31 : Enter 177 := fun _ _ => by kernel_rfl
theorem ent_fine : Enter 158 := fun _ _ => by kernel_rfl
theorem ent_ends : Enter 170 := fun _ _ => by kernel_rfl
def RngOk (f : Fr) : Prop := f.k = 4 ∨ f.k = 8 ∨ f.k = 16 ∨ f.k = 17
theorem RngOk.not {f : Fr} (h : RngOk f) {k : Int} (hk : f.k = k) (h4 : k ≠ 4 ∧ k ≠ 8 ∧ k ≠ 16 ∧ k ≠ 17) : False := by unfold RngOk at h; omega
theorem right_any {w : World} {f : Fr} {vd vr : Value} (hv : FrV w f vd vr) (hrl : (f.rs.length : Int) ≤ 100000) (hok : okKey f.k) (hro : RngOk f) :
  Calls Tryz.prog 95 #[frV f vd vr] w fun e w' => e = .returned (.bool (rightF f)) ∧ Mod (fun _ => False) w w' := by
 cases hm : maskK f.k with
 | none => exact right_no hv hm hok
 | some m =>
  have hm' := hm
  unfold maskK at hm
  split at hm
  ·unfold maskN at hm
   split at hm
   ·have hk : f.k = 0 := by omega
    exact (hro.not hk (by decide)).elim
   ·have hk : f.k = 1 := by omega
    exact (hro.not hk (by decide)).elim
   ·have hk : f.k = 2 := by omega
    exact (hro.not hk (by decide)).elim
   ·have hk : f.k = 4 := by omega
    obtain rfl := Option.some.inj hm
    exact right_kind hv hrl hm' (by rw [hk]; rfl) hask19 (fun X hX ht => by rw [hk]; exact ok_fine) ent19 ent_fine rfl rfl hok
   ·have hk : f.k = 5 := by omega
    exact (hro.not hk (by decide)).elim
   ·have hk : f.k = 6 := by omega
    exact (hro.not hk (by decide)).elim
   ·have hk : f.k = 7 := by omega
    exact (hro.not hk (by decide)).elim
   ·have hk : f.k = 8 := by omega
    obtain rfl := Option.some.inj hm
    exact right_kind hv hrl hm' (by rw [hk]; rfl) hask31 (fun X hX ht => by rw [hk]; exact ok_ends (hv.kept hX) (by unfold topB at ht; simp only [Bool.and_eq_true, decide_eq_true_eq] at ht; exact ht.1.1.2)) ent31 ent_ends rfl rfl hok
   ·have hk : f.k = 16 := by omega
    obtain rfl := Option.some.inj hm
    exact right_kind hv hrl hm' (by rw [hk]; rfl) hask5 (fun X hX ht => by rw [hk]; exact ok_fine) ent5 ent_fine rfl rfl hok
   ·have hk : f.k = 17 := by omega
    obtain rfl := Option.some.inj hm
    exact right_kind hv hrl hm' (by rw [hk]; rfl) hask6 (fun X hX ht => by rw [hk]; exact ok_fine) ent6 ent_fine rfl rfl hok
   ·have hk : f.k = 18 := by omega
    exact (hro.not hk (by decide)).elim
   ·have hk : f.k = 20 := by omega
    exact (hro.not hk (by decide)).elim
   ·have hk : f.k = 21 := by omega
    exact (hro.not hk (by decide)).elim
   ·have hk : f.k = 22 := by omega
    exact (hro.not hk (by decide)).elim
   ·have hk : f.k = 24 := by omega
    exact (hro.not hk (by decide)).elim
   ·have hk : f.k = 25 := by omega
    exact (hro.not hk (by decide)).elim
   ·have hk : f.k = 26 := by omega
    exact (hro.not hk (by decide)).elim
   ·have hk : f.k = 27 := by omega
    exact (hro.not hk (by decide)).elim
   ·have hk : f.k = 28 := by omega
    exact (hro.not hk (by decide)).elim
   ·have hk : f.k = 30 := by omega
    exact (hro.not hk (by decide)).elim
   ·cases hm
  ·cases hm
theorem putL_len (n : Nat) : (putL n).length ≤ 8 := by rw [putL_length]; exact szN_le n
def uv (n : Nat) : Value := .int .u64 (n : Int)
def Ints (w : World) (v : Value) (ns : List Nat) : Prop := Sl w 1 v ns.length (ns.map uv)
def intsL (ns : List Nat) : List UInt8 := ns.flatMap putL
theorem intsL_len (ns : List Nat) : (intsL ns).length ≤ 8 * ns.length := by
 unfold intsL
 induction ns with
 | nil => simp
 | cons x l ih => have := putL_len x; rw [List.flatMap_cons, List.length_append, List.length_cons]; omega
theorem ints_addr {w : World} {v : Value} {ns : List Nat} (h : Ints w v ns) (hx : ns ≠ []) :
  ∃ b off cap, v = .slice (some ⟨b, off, none⟩) ns.length cap ∧ ns.length ≤ cap ∧ cap ≤ maxLen ∧ ∀ (j n : Nat), ns[j]? = some n → w.cell? ⟨b, off + j, none⟩ = some (.int .u64 (n : Int)) := by
 obtain ⟨b, off, cap, h1, h2, h3, h4⟩ := Sl.addr h (by simpa using hx)
 exact ⟨b, off, cap, h1, h2, h3, fun j n hj => h4 j (uv n) (by simp [hj])⟩
theorem ints_lit (w : World) (ns : List Nat) (cs : Array Value) (n : Nat) (T : TypeId) (hc : cs = (ns.map uv).toArray) (hn : ns.length = n) (hm : n ≤ maxLen) : Ints (w.alloc (.cells cs T)) (.slice (some ⟨w.heap.size, 0, none⟩) n n) ns := by
 subst hc hn
 refine ⟨by simp, some ⟨w.heap.size, 0, none⟩, ns.length, rfl, Nat.le_refl _, hm, fun e => by simp at e, fun j u hu => ⟨w.heap.size, 0, rfl, ?_⟩⟩
 rw [Nat.zero_add]
 exact (Blk.new w (ns.map uv).toArray T).cellAt j (by simpa using hu)
set_option maxHeartbeats 2000000 in
set_option maxRecDepth 10000 in
theorem ints_any {w : World} {v : Value} {ns : List Nat} (hT : Tabs w) (hv : Ints w v ns) (hn : (ns.length : Int) ≤ 1000) :
  Calls Tryz.prog 98 #[v] w fun e w' => ∃ v', e = .returned v' ∧ OwnB w' w.heap.size v' (intsL ns) ∧ Mod (fun _ => False) w w' := by
 have HV := Lib.hid hv
 have HT := Lib.hid hT
 obtain ⟨a, cap, rfl, hcap, _⟩ := Sl.val hv
 obtain ⟨n, hnn⟩ : ∃ n, n = ns.length := ⟨_, rfl⟩
 rw [← hnn] at hn hcap ⊢
 have HN := Lib.hid hnn
 have hnc : (n : Int) ≤ cap := by omega
 clear hv hT hcap hnn
 go_enter Tryz.func98, Tryz.ntmps98
 go_wp2
 go_loopw [3, 8] (fun s3 s8 wr => ∃ k : Nat, k ≤ n ∧ s8 = .int .i64 k ∧ ∃ ap cp, s3 = .slice ap (intsL (ns.take k)).length cp ∧ Hid (OwnB wr w.heap.size (.slice ap (intsL (ns.take k)).length cp) (intsL (ns.take k)) ∧ Mod (fun _ => False) w wr)) (fun _ s8 _ => n - (intOf s8).toNat)
 case atStart => exact ⟨0, Nat.zero_le _, rfl, none, 0, rfl, ⟨OwnB.nil _ _, Mod.refl _ _⟩⟩
 case round =>
  obtain ⟨k, hk, rfl, ap, cp, rfl, HR⟩ := hrel
  by_cases hkn : (k : Int) < n
  ·have hkl : k < ns.length := by have := HN.out; omega
   have hs : ns[k]? = some ns[k] := List.getElem?_eq_getElem hkl
   generalize ns[k] = x at hs
   obtain ⟨b, off, cp0, hv, _, _, hcs⟩ := ints_addr HV.out (by rintro rfl; simp at hkl)
   simp only [Value.slice.injEq] at hv
   obtain ⟨rfl, _, rfl⟩ := hv
   have g0 := HR.out.2.cellAt (hcs k x hs) (fun h => h)
   obtain ⟨acc, hacc⟩ : ∃ l, l = intsL (ns.take k) := ⟨_, rfl⟩
   rw [← hacc] at HR ⊢
   obtain ⟨L, hL⟩ : ∃ l, l = intsL (ns.take (k + 1)) := ⟨_, rfl⟩
   have HL : Hid (L = acc ++ putL x) := by show _ = _; rw [hL, hacc, take_snoc ns k x hs]; simp [intsL]
   have HLEN : Hid ((L.length : Int) ≤ 140737488355328) := by
    show _ ≤ _
    have := intsL_len (ns.take (k + 1))
    rw [← hL] at this
    have h2 : (ns.take (k + 1)).length ≤ 1000 := by rw [List.length_take]; omega
    omega
   have HLL := Lib.hid hL
   clear hcs hs hkl hacc hL
   go_wp2_with fail
   refine (put_any x wr (HR.out.2.tabs HT.out (fun h => h))).mono ?_
   rintro e w2 ⟨v2, rfl, ho2, hM2⟩
   have HB2 := Lib.hid ho2.byts
   obtain ⟨a2, c2, rfl, _⟩ := byts_val ho2.byts
   have HM2 := Lib.hid hM2
   have HLS : Hid (acc.length + (putL x).length = L.length) := by show _ = _; rw [HL.out]; simp
   clear ho2 hM2
   generalize hpx : putL x = px at *
   clear hpx
   generalize hla : acc.length = la at *
   generalize hlp : px.length = lp at *
   generalize hll : L.length = ll at *
   have HLA := Lib.hid hla
   have HLP := Lib.hid hlp
   have HLLn := Lib.hid hll
   clear hla hlp hll
   go_wp2_with (at_builtin; go_must (refine wpList_append_b rfl (.tmp 12) (.tmp 14) (by rfl) (.slice ap la cp) acc w.heap.size ll (by rfl) (HR.out.1.keptF HM2.out) _ px (by rfl) HB2.out L HL.out (by rw [HLA.out, HLP.out]; exact HLS.out) HLEN.out (HR.out.2.trans HM2.out).size ?_); intro ap5 cp5 W5 hA5)
   go_roundw
   case rel => exact ⟨k + 1, by omega, by go_num, ap5, cp5, by rw [← HLL.out, HLLn.out], by rw [← HLL.out, HLLn.out]; exact ⟨hA5.own, hA5.modF (HR.out.2.trans HM2.out) (Nat.le_refl _)⟩⟩
   case measure => simp [intOf]; omega
  ·have hkn' : k = n := by omega
   have hall : ns.take k = ns := List.take_of_length_le (by have := HN.out; omega)
   rw [hall] at HR ⊢
   obtain ⟨L, hL⟩ : ∃ l, l = intsL ns := ⟨_, rfl⟩
   rw [← hL] at HR ⊢
   have HLL := Lib.hid hL
   clear hall hL
   generalize L.length = ll at *
   go_wp2
   go_ret
   exact ⟨_, rfl, by rw [← HLL.out]; exact HR.out.1, HR.out.2⟩
set_option maxRecDepth 10000 in
theorem data_any {w : World} {v : Value} {l : List UInt8} (hT : Tabs w) (hv : Byts w v l) (hn : (l.length : Int) ≤ 100000) :
  Calls Tryz.prog 99 #[v] w fun e w' => ∃ v', e = .returned v' ∧ OwnB w' w.heap.size v' (dataL l) ∧ Mod (fun _ => False) w w' := by
 have HV := Lib.hid hv
 have HT := Lib.hid hT
 obtain ⟨a, cap, rfl, hcap, _⟩ := byts_val hv
 have HP := Lib.hid (put_any l.length w hT)
 have hw : IntKind.u64.wrap (l.length : Int) = l.length := IntWalk.u64_in _ (by omega)
 have HD : Hid (dataL l = putL l.length ++ l) := rfl
 have HL8 := Lib.hid (putL_len l.length)
 obtain ⟨n, hnn⟩ : ∃ n, n = l.length := ⟨_, rfl⟩
 rw [← hnn] at hn hcap HP HD HL8 HV hw ⊢
 have HN := Lib.hid hnn
 clear hv hT hnn
 go_enter Tryz.func99, Tryz.ntmps99
 go_wp2_with fail
 refine (HP.out).mono ?_
 rintro e w1 ⟨v1, rfl, ho1, hM1⟩
 have HO1 := Lib.hid ho1
 have HM1 := Lib.hid hM1
 have HV1 := Lib.hid (byts_kept HV.out hM1)
 obtain ⟨a1, c1, rfl, _⟩ := byts_val ho1.byts
 clear ho1 hM1 HP
 generalize putL n = p at *
 generalize hlp : p.length = lp at *
 have HLP := Lib.hid hlp
 have HLL : Hid (((lp + n : Nat) : Int) ≤ 140737488355328) := by show _ ≤ _; have := HL8.out; omega
 clear hlp
 go_wp2_with (at_builtin; go_must (refine wpList_append_b rfl (.tmp 6) (.tmp 7) (by rfl) (.slice a1 lp c1) p w.heap.size (lp + n) (by rfl) HO1.out _ l (by rfl) HV1.out (p ++ l) rfl (by rw [HLP.out, HN.out]) HLL.out HM1.out.size ?_); intro ap5 cp5 W5 hA5)
 go_ret
 exact ⟨_, rfl, by rw [HD.out]; exact hA5.own, hA5.modF HM1.out (Nat.le_refl _)⟩
end Go.Proofs.YtahgidkpjmecdaaGreatDoor
