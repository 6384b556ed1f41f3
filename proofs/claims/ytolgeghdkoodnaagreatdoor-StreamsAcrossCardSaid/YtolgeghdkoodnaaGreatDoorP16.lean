/- Parts of the proof: SsB StG StH StI. -/
import Derived.Test.YtolgeghdkoodnaaGreatDoorP10
import Derived.Test.YtolgeghdkoodnaaGreatDoorP13
import Derived.Test.YtolgeghdkoodnaaGreatDoorP15
import Derived.RangeFuncBox
import Derived.RangeFuncLeaves
import Derived.RangeFuncBound
import Derived.RangeFuncStops
import Derived.RangeFuncCalls
import Derived.RangeFuncWrites
import Derived.RangeFuncNested
import Derived.Shelf.Abstract
import Derived.OwnWalkIn
import Derived.TacticsInMore
import Derived.LoopNIn
import Derived.LoopIn
import Derived.Maps.AppendAt
import Derived.Maps.OwnIn
set_option maxRecDepth 100000
namespace Go.Proofs.YtolgeghdkoodnaaGreatDoor
open Go.RowKit Go.Maps Go.Shelf
attribute [local go_sem] Oper.semAt_some
abbrev encU (z : Int) : Value := .int .u64 z
theorem encU_inj {x y : Int} (h : encU x = encU y) : x = y := by simpa [encU] using h
theorem info64 : (Tryz.prog.info? 26).map (fun i => (i.zero, i.size, i.bytes)) = some (some (.int .u64 0), 1, 8) := by kernel_rfl
def CollU (dom : List Int) (left : Lit → Bool) (ss : List Int) : Prop := ss.Nodup ∧ ∀ x, x ∈ ss ↔ (x ∈ dom ∧ left (.int .u64 x) = false)
theorem CollU.step {dom : List Int} {left : Lit → Bool} {ss : List Int} (h : CollU dom left ss) {x : Int} (hl : left (.int .u64 x) = true) (hd : x ∈ dom) : CollU dom (fun z => left z && !z.sameKey (.int .u64 x)) (ss ++ [x]) := by
 have hnew : x ∉ ss := fun hx => by have := ((h.2 x).1 hx).2; rw [hl] at this; cases this
 refine ⟨List.nodup_append.2 ⟨h.1, by simp, fun a ha b hb => by simp at hb; subst hb; exact fun e => hnew (e ▸ ha)⟩, fun y => ?_⟩
 by_cases hy : y = x
 ·subst hy; simp [hd, Lit.sameKey]
 ·simp [h.2 y, hy, Lit.sameKey]
theorem keyOf_u64 {key : Value} {kl : Lit} (h : keyOf Tryz.prog 26 key = some kl) : ∃ x : Int, key = encU x ∧ kl = .int .u64 x := by
 obtain ⟨z, rfl, rfl, _⟩ := Maps.keyOf_int_inv Tryz.underlying26 h
 exact ⟨z, rfl, rfl⟩
set_option maxRecDepth 100000 in
set_option maxHeartbeats 1000000 in
theorem keys1_in (F : Fence) (n : Nat) (hF : F.fn 61) (hro : F.round = none) (hn : 1 ≤ n) (l Bm b nn : Nat) (D0 : DataW Value) {dom : List Int} {f : Int → Value} (h3 : Tells .u64 D0 dom f) (J Jx : List Int → World → Prop)
  (hY : ∀ pre x W, J pre W → pre.length < dom.length → YieldAt F (n - 1) Tryz.prog l #[encU x] W fun e W' =>
   (e = .returned (.bool true) ∧ J (pre ++ [x]) W' ∧ KeepsWalks W W') ∨ (e = .returned (.bool false) ∧ Jx (pre ++ [x]) W'))
  (W : World) (hJ : AbidesFrom W.heap.size J) (hm : W.cell? ⟨Bm, 0, none⟩ = some (.map (some b))) (hown : W.ownsMap Tryz.prog 26 anyElemI b nn D0) (h0 : J [] W) :
  CallsIn F n Tryz.prog 61 #[.func (.yield l) #[] #[], .pointer (some ⟨Bm, 0, none⟩)] W fun e W' => (∃ v, e = .returned v) ∧
   ((∃ ss : List Int, ss.Perm dom ∧ J ss W') ∨ (∃ pre : List Int, True ∧ Jx pre W')) := by
 refine callsIn_of_wp Tryz.func61 rfl hF ?_ hro
 simp only [Tryz.ntmps61, List.size_toArray, List.length_cons, List.length_nil, Nat.reduceAdd, Nat.reduceSub, Array.replicate_succ, Array.replicate_zero, List.push_toArray, List.append_toArray, List.nil_append, List.cons_append]
 gi_wp2_with (first
  | (gi_at_range; refine wpListIn_range_own _ rfl _ 72 rfl 26 76 (int_keyed Tryz.underlying26) Tryz.underlying72 _ b nn _ rfl hown ?_; intro w0 hrg0 hg0 hs0)
  | gi_in)
 go_frame
 gi_loopw [3] (fun _ wr => ∃ (left : Lit → Bool) (cnt : Nat) (ss : List Int), wr.ranges Tryz.prog 26 anyElemI b W.heap.size nn D0 left cnt ∧ ss.length + cnt ≤ dom.length ∧ CollU dom left ss ∧ J ss wr)
  (fun _ wr => wr.rangeLeft b W.heap.size)
 case atStart =>
  exact ⟨_, _, [], hrg0, by rw [h3.size]; simp, ⟨List.nodup_nil, fun x => by rw [h3.has]; simp⟩, hJ [] W w0 none h0 hg0 (fun r e => by cases e)⟩
 case round =>
  obtain ⟨left, cnt, ss, hrg, hcs, hC, hJs⟩ := hrel
  gi_wp2_with (first
   | (gi_at_next; refine wpListIn_next_ranges _ rfl _ rfl 26 (int_keyed Tryz.underlying26) anyElemI encU id (fun key kl hk => by obtain ⟨x, hx, _⟩ := keyOf_u64 hk; exact ⟨x, hx⟩) (fun v _ _ => ⟨v, rfl⟩) b W.heap.size nn _ _ _ rfl hrg ?_ ?_)
   | gi_in)
  ·intro hc0 hl0
   gi_wp2
   go_end0
   refine ⟨⟨_, rfl⟩, .inl ⟨ss, (List.perm_ext_iff_of_nodup hC.1 h3.nodup).2 fun x => by rw [hC.2 x, hl0]; simp, hJs⟩⟩
  ·intro x c kl yd yp w2 cnt2 hkey hlk hv hat hrg2 hlt hg2 hs2 hen
   obtain ⟨x', ex, rfl⟩ := keyOf_u64 hkey
   obtain rfl : x = x' := encU_inj ex
   have hx : x ∈ dom := by
    have e1 := has_true_of_atKey hat
    rw [h3.has] at e1
    simpa using e1
   have hJ2 : J ss w2 := hJ ss wr w2 (some W.heap.size) hJs hg2 (fun r e => by cases e; exact ⟨Nat.le_refl _, hrg.iter_walk⟩)
   obtain ⟨fn, tmps, assign, body, hy, hR⟩ := hY ss x w2 hJ2 (by omega)
   clear hs2
   gi_wp2
   refine hR.mono ?_
   have hC2 := hC.step hlk hx
   rintro e W3 (⟨rfl, hJ3, hk3⟩ | ⟨rfl, hJx3⟩)
   ·gi_wp2
    have hrg3 := hrg2.of_walks hk3
    go_roundw
    case rel => exact ⟨_, cnt2, ss ++ [x], hrg3, by simp; omega, hC2, hJ3⟩
    case measure => rw [hrg3.left_eq, hrg.left_eq]; exact hlt
   ·gi_wp2
    refine bodyPost_ret (results_none rfl _ _ _) rfl ?_
    exact ⟨⟨_, rfl⟩, .inr ⟨ss ++ [x], trivial, hJx3⟩⟩
theorem keys_stops (F : Fence) (n : Nat) (hF : F.fn 61) (hro : F.round = none) (hn : 1 ≤ n) (Bm b : Nat) {dom : List Int} {f : Int → Value} (w : World) (hBm : Bm < w.heap.size)
  (hm : w.cell? ⟨Bm, 0, none⟩ = some (.map (some b))) (hI : IMap 26 .u64 w b dom f) :
  SeqStopsK F n Tryz.prog 61 #[.pointer (some ⟨Bm, 0, none⟩)] (fun x : Int => #[encU x]) KeepsWalks (fun ss => ss.Perm dom) (fun _ => True) dom.length w := fun l J Jx W hW hJ _ hY h0 => by
 obtain ⟨D, h1, h2, h3⟩ := hI
 have hown' : W.ownsMap Tryz.prog 26 anyElemI b dom.length D := by
  have hbl := h1.lt
  obtain ⟨es, clock, hb, Ft, hs, hD⟩ := h1
  exact ⟨es, clock, (hW.block b hbl).trans hb, Ft, hs, hD⟩
 exact keys1_in F n hF hro hn l Bm b dom.length D h3 J Jx hY W hJ ((hW.cell (p := ⟨Bm, 0, none⟩) hBm).trans hm) hown' h0
theorem keys_any (w : World) (mb : Nat) : Calls Tryz.prog 31 #[.map (some mb)] w fun e w' => w' = w.alloc (.cells #[.map (some mb)] 72) ∧ e = .returned (.func (.func 61) #[] #[.pointer (some ⟨w.heap.size, 0, none⟩)]) := by
 go_enter Tryz.func31, Tryz.ntmps31
 go_wp2_with fail
 go_ret
 exact ⟨rfl, rfl⟩
set_option maxRecDepth 100000 in
set_option maxHeartbeats 2000000 in
theorem appendSeq_in (Bm b : Nat) {dom : List Int} {f : Int → Value} (w : World) (hBm : Bm < w.heap.size) (hm : w.cell? ⟨Bm, 0, none⟩ = some (.map (some b))) (hI : IMap 26 .u64 w b dom f) (hlen : dom.length ≤ 1000) :
  CallsIn Fence.wide 6 Tryz.prog 86 #[.slice none 0 0, .func (.func 61) #[] #[.pointer (some ⟨Bm, 0, none⟩)]] w fun e W' =>
   ∃ v ss, e = .returned v ∧ ss.Perm dom ∧ W'.ownsRow w.heap.size 26 1 v ss.length (ss.map encU) ∧ (v = .slice none 0 0 ↔ ss = []) ∧ Below w.heap.size w W' := by
 have h1 : 1 ≤ 6 := by omega
 obtain ⟨i0, hi, hz0, hz1, hz2⟩ := info_parts info64
 have hml : (1000 : Nat) ≤ maxLen := by unfold maxLen; omega
 refine callsIn_of_wp_marks Tryz.func86 rfl trivial ?_ rfl
 simp only [Tryz.ntmps86, List.size_toArray, List.length_cons, List.length_nil, Nat.reduceAdd, Nat.reduceSub, Array.replicate_succ, Array.replicate_zero, List.push_toArray, List.append_toArray, List.nil_append, List.cons_append]
 gi_wp2
 have bO := Boxed.new w 36 (.slice none 0 0)
 have hB0 : Below w.heap.size w (w.alloc (.cells #[.slice none 0 0] 36)) := (Below.refl _ w).alloc (Nat.le_refl _) _
 have hI1 : IMap 26 .u64 (w.alloc (.cells #[.slice none 0 0] 36)) b dom f := hI.kept (S := fun _ => False) ((Mod.refl _ _).alloc _) (fun h => h)
 have hm1 : (w.alloc (.cells #[.slice none 0 0] 36)).cell? ⟨Bm, 0, none⟩ = some (.map (some b)) := ((Mod.refl (fun _ => False) w).alloc _).cellAt hm (fun h => h)
 refine wpIn_rangeFunc_ownG rfl h1 (gf := 61) (lb := #[.pointer (some ⟨Bm, 0, none⟩)]) rfl trivial (enters_of Tryz.func61 (by kernel_rfl) rfl)
  (keys_stops Fence.wide (6 - 1) trivial rfl (by omega) Bm b _ (by simpa using Nat.lt_succ_of_lt hBm) hm1 hI1) walksK_t walksK_b (Below.refl _ _) (fun _ => rfl)
  (fun pre W => (∃ v, Boxed W w.heap.size 36 v ∧ W.ownsRow w.heap.size 26 1 v pre.length (pre.map encU) ∧ (v = .slice none 0 0 ↔ pre = [])) ∧ Below w.heap.size w W)
  (fun _ _ _ => False)
  (OwnFrom.and (Own.from (holdsRow_own w.heap.size w.heap.size 36 26 1 (fun pre => pre.length) (fun pre => pre.map encU) (fun pre v => v = .slice none 0 0 ↔ pre = [])) _) (ownFrom_below (Nat.le_refl _) (by simp)))
  (fun _ _ _ _ _ hs _ _ => hs)
  ⟨⟨_, bO, World.ownsRow_nil _ _ _ _, by simp⟩, hB0⟩
  (fun x => { tmps := #[.slice none 0 0, .func (.func 61) #[] #[.pointer (some ⟨Bm, 0, none⟩)], .pointer (some ⟨w.heap.size, 0, none⟩), undef, .slice none 0 0, (.int .u64 x), .func (.func 61) #[] #[.pointer (some ⟨Bm, 0, none⟩)], (.int .u64 x), undef, undef, undef, undef, undef], defers := [] }) ?assign ?body ?done ?stop
 case assign =>
  intro l x W K hK
  gi_wp2
  exact hK
 case body =>
  rintro l pre x W ⟨⟨v, hv, hrow, hnil⟩, hB⟩ hlt
  have hc := hv.cell
  gi_wp2_with (gi_at_builtin; refine wpListIn_append_own _ rfl _ _ 36 rfl w.heap.size 26 i0 (.int .u64 0) 1 8 Tryz.underlying36 hi hz0 hz1 hz2 rfl (by decide) _ _ _ rfl (hrow.alloc _) ⟨W.heap.size, 0, none⟩ 1 1 [.int .u64 x] rfl rfl (cell_one_new _ _ _) (by simp [Value.oneCell']) (by omega) (by omega) (by have := hB.size; simp; omega) ?_; intro v' w1 hown' hgrow _; obtain ⟨g', cap', rfl⟩ := ownsRow_succ hown'; obtain ⟨hv1, hv2, hr2, hk2, hb2⟩ := hv.appended (by decide) hrow hB.size (Nat.le_refl _) hown' hgrow; have hc1 := hv1.cell; have hf1 := hv1.frozen)
  exact ⟨hk2.from _, hk2.walks, ⟨_, hv2, by simpa using hr2, by simp⟩, hB.trans hb2⟩
 case done =>
  rintro D ys W hD hS ⟨⟨v, hv, hrow, hnil⟩, hB⟩ hK
  have hc := hv.cell
  gi_wp2
  refine ⟨by simp, .inl ⟨_, _, rfl, run_takeDeferred hK, ?_⟩⟩
  exact ⟨_, results_tmp rfl _ _ _, v, ys, rfl, hS, ownsRow_putObj hrow _ hK rfl, hnil, hB.trans (belowK_b (w := w) (Nat.le_refl _) W D _ _ (by simp at hD; omega) hK rfl rfl)⟩
 case stop =>
  rintro D c pre W _ _ h _
  exact h.elim
theorem collect_any (Bm b : Nat) {dom : List Int} {f : Int → Value} (w : World) (hBm : Bm < w.heap.size) (hm : w.cell? ⟨Bm, 0, none⟩ = some (.map (some b))) (hI : IMap 26 .u64 w b dom f) (hlen : dom.length ≤ 1000) :
  Calls Tryz.prog 59 #[.func (.func 61) #[] #[.pointer (some ⟨Bm, 0, none⟩)]] w fun e W' =>
   ∃ v ss, e = .returned v ∧ ss.Perm dom ∧ W'.ownsRow w.heap.size 26 1 v ss.length (ss.map encU) ∧ (v = .slice none 0 0 ↔ ss = []) ∧ Below w.heap.size w W' := by
 have HA := Lib.hid (callsIn_wide.1 (appendSeq_in Bm b w hBm hm hI hlen))
 clear hBm hm hI hlen
 go_enter Tryz.func59, Tryz.ntmps59
 go_wp2_with (first
  | (go_at_call 86; (with_reducible refine HA.out.mono ?_); rintro e w1 ⟨v, ss, rfl, hp, hrow, hn, hb⟩; have HV := Lib.hid (And.intro hp (And.intro hrow (And.intro hn hb))); clear hp hrow hn hb)
  | fail)
 go_ret
 exact ⟨v, ss, rfl, HV.out⟩
def OwnU (w : World) (B : Nat) (v : Value) (l : List Int) : Prop := w.ownsRow B 26 1 v l.length (l.map encU)
theorem holds_of_block_u {w : World} {g : Nat} {cur : Array Value} {e : TypeId} {ss : List Int} (hb : w.heap[g]? = some (.cells cur e (0, 0))) (ht : cur.toList.take ss.length = ss.map encU) : Sort.Holds encU w g 0 ss.toArray := by
 intro j hj
 have hj' : j < ss.length := by simpa using hj
 refine ⟨?_, by simp [World.frozen?, hb]⟩
 have h1 : (cur.toList.take ss.length)[j]? = (ss.map encU)[j]? := by rw [ht]
 rw [List.getElem?_take_of_lt hj'] at h1
 simp only [World.cell?, hb, Nat.zero_add]
 simp only [Option.isSome_none, Bool.false_eq_true, if_false]
 rw [← Array.getElem?_toList, h1]
 simp [hj']
theorem heap_sorted_u {w : World} {g n : Nat} {os : Array Obj} {cur : Array Value} {e : TypeId} {fr : Nat × Nat} (d : Array Int) (hb : w.heap[g]? = some (.cells cur e fr)) :
  (Sort.grow (Sort.putRow encU (Sort.ahead w n) g 0 d) os).heap[g]? = some (.cells (Sort.putCells encU 0 d cur) e fr) := by
 have hg : g < w.heap.size := (Array.getElem?_eq_some_iff.1 hb).1
 rw [Sort.heap_grow_old _ _ (by simpa using hg)]
 simp [Sort.putRow, Sort.mapBlock, Sort.ahead, Array.getElem?_modify, hb, Sort.onCells]
theorem grownBy_sorted_u {w : World} {g n : Nat} {os : Array Obj} (d : Array Int) : w.grownBy (Sort.grow (Sort.putRow encU (Sort.ahead w n) g 0 d) os) (some g) := by
 refine ⟨rfl, rfl, rfl, by simp, fun k hk hne => ?_⟩
 rw [Sort.heap_grow_old _ _ (by simpa using hk)]
 have : g ≠ k := fun e => hne (by rw [e])
 simp [Sort.putRow, Sort.mapBlock, Sort.ahead, Array.getElem?_modify, this]
theorem take_putCells_u (cur : Array Value) (ts : List Int) (h : ts.length ≤ cur.size) : (Sort.putCells encU 0 ts.toArray cur).toList.take ts.length = ts.map encU := by
 apply List.ext_getElem?
 intro j
 by_cases hj : j < ts.length
 ·rw [List.getElem?_take_of_lt hj, Array.getElem?_toList]
  simp [Sort.putCells, hj, show j < cur.size by omega]
 ·rw [List.getElem?_take_eq_none (by omega), List.getElem?_eq_none (by simp; omega)]
theorem ownsRow_sorted_u {w : World} {base g cap n : Nat} {e : TypeId} {os : Array Obj} {cur : Array Value} {ss ts : List Int} (hl : ts.length = ss.length) (hbase : base ≤ g) (hb : w.heap[g]? = some (.cells cur e (0, 0)))
  (h1 : ss.length ≤ cap) (h2 : cap ≤ maxLen) (h3 : cur.size = cap * 1) :
  (Sort.grow (Sort.putRow encU (Sort.ahead w n) g 0 ts.toArray) os).ownsRow base e 1 (.slice (some ⟨g, 0, none⟩) ts.length cap) ts.length (ts.map encU) :=
 ⟨by simp, .inr ⟨g, cap, _, rfl, hbase, heap_sorted_u _ hb, by omega, h2, by simp [Sort.putCells, h3], by rw [Nat.mul_one]; exact take_putCells_u cur ts (by omega)⟩⟩
theorem sortI_len (l : List Int) : (sortI l).length = l.length := by unfold sortI; simp
theorem sortI_perm {l m : List Int} (h : l.Perm m) : sortI l = sortI m := by
 have tr : ∀ a b c : Int, decide (a ≤ b) = true → decide (b ≤ c) = true → decide (a ≤ c) = true := fun a b c h1 h2 => by simp only [decide_eq_true_eq] at *; omega
 have tot : ∀ a b : Int, (decide (a ≤ b) || decide (b ≤ a)) = true := fun a b => by simp only [Bool.or_eq_true, decide_eq_true_eq]; omega
 unfold sortI
 refine List.Perm.eq_of_pairwise (le := fun a b : Int => decide (a ≤ b) = true) (fun a b _ _ h1 h2 => ?_) (List.pairwise_mergeSort tr tot l) (List.pairwise_mergeSort tr tot m) (((List.mergeSort_perm l _).trans h).trans (List.mergeSort_perm m _).symm)
 simp only [decide_eq_true_eq] at h1 h2
 omega
theorem sortI_mem {l : List Int} {x : Int} : x ∈ sortI l ↔ x ∈ l := (List.mergeSort_perm l _).mem_iff
theorem sorted_any (Bm b : Nat) {dom : List Int} {f : Int → Value} (w : World) (hBm : Bm < w.heap.size) (hm : w.cell? ⟨Bm, 0, none⟩ = some (.map (some b))) (hI : IMap 26 .u64 w b dom f) (hlen : dom.length ≤ lenMax) :
  Calls Tryz.prog 30 #[.func (.func 61) #[] #[.pointer (some ⟨Bm, 0, none⟩)]] w fun e W' =>
   ∃ v, e = .returned v ∧ OwnU W' w.heap.size v (sortI dom) ∧ Mod (fun _ => False) w W' := by
 have HC := Lib.hid (collect_any Bm b w hBm hm hI (by unfold lenMax at hlen; omega))
 have HL := Lib.hid hlen
 clear hBm hm hI hlen
 go_enter Tryz.func30, Tryz.ntmps30
 go_wp2_with (first
  | (go_at_call 59; (with_reducible refine HC.out.mono ?_); rintro e w1 ⟨v, ss, rfl, hp, hrow, hn, hb⟩)
  | fail)
 have hM : Mod (fun _ => False) w w1 := ⟨hb.os, hb.tape, hb.output, hb.size, fun k hk _ => hb.block k hk⟩
 rcases hrow.2 with ⟨rfl, hz⟩ | ⟨gb, cap, cur, rfl, hbase, hgb, r1, r2, r3, r4⟩
 ·have hss : ss = [] := List.eq_nil_of_length_eq_zero hz
  subst hss
  have hd : dom = [] := hp.symm.eq_nil
  have HM := Lib.hid hM
  have HD := Lib.hid hd
  clear hp hrow hn hb hM hd hz
  go_wp2_with (first
   | (go_at_call 60; (with_reducible refine (usort_nil _).mono ?_); rintro e w2 ⟨rfl, rfl⟩)
   | fail)
  go_ret
  refine ⟨_, rfl, ?_, HM.out⟩
  rw [HD.out]
  have e0 : sortI [] = [] := by unfold sortI; simp
  rw [e0]
  exact World.ownsRow_nil _ _ _ _
 ·have hH : Sort.Holds encU w1 gb 0 ss.toArray := holds_of_block_u hgb (by simpa using r4)
  have HS := Lib.hid (usort_any gb cap ss w1 hH (by rw [hp.length_eq]; exact HL.out))
  have HF : Hid (∀ n os, OwnU (Sort.grow (Sort.putRow encU (Sort.ahead w1 n) gb 0 (sortI ss).toArray) os) w.heap.size (.slice (some ⟨gb, 0, none⟩) ss.length cap) (sortI dom) ∧ Mod (fun _ => False) w (Sort.grow (Sort.putRow encU (Sort.ahead w1 n) gb 0 (sortI ss).toArray) os)) := Lib.hid (fun n os => by
   have h1 := ownsRow_sorted_u (n := n) (os := os) (sortI_len ss) hbase hgb r1 r2 r3
   rw [sortI_len] at h1
   refine ⟨?_, hM.grown (grownBy_sorted_u (n := n) (os := os) (sortI ss).toArray) (fun k hk hlt => by cases hk; omega)⟩
   rw [← sortI_perm hp]
   unfold OwnU
   rw [sortI_len]
   exact h1)
  clear hp hrow hn hb hM hH hgb r1 r2 r3 r4 hbase
  go_wp2_with (first
   | (go_at_call 60; (with_reducible refine HS.out.mono ?_); rintro e w2 ⟨rfl, n, os, rfl⟩)
   | fail)
  go_ret
  exact ⟨_, rfl, HF.out n os⟩
theorem ids_any {B : Nat} {w : World} {tb mb : Nat} {G : Int → SM} {T : Tb} (q : TBuf B w tb mb G T) (hlen : T.dom.length ≤ lenMax) :
  Calls Tryz.prog 12 #[.pointer (some ⟨tb, 0, none⟩)] w fun e W' => ∃ v, e = .returned v ∧ OwnU W' w.heap.size v (sortI T.dom) ∧ Mod (fun _ => False) w W' := by
 have cm := q.mapc
 have hmb := q.map.lt
 have hM : Mod (fun _ => False) w (w.alloc (.cells #[.map (some mb)] 72)) := (Mod.refl _ _).alloc _
 have HS := Lib.hid (sorted_any w.heap.size mb (w.alloc (.cells #[.map (some mb)] 72)) (by simp) (Boxed.new w _ _).cell (q.map.kept hM (fun h => h)) hlen)
 have HM := Lib.hid hM
 clear q hmb hlen hM
 go_enter Tryz.func12, Tryz.ntmps12
 go_wp2_with (first
  | (go_at_call 31; (with_reducible refine (keys_any _ _).mono ?_); rintro e w1 ⟨rfl, rfl⟩)
  | (go_at_call 30; (with_reducible refine HS.out.mono ?_); rintro e w2 ⟨v, rfl, hv, hm⟩; have HV := Lib.hid (And.intro hv hm); clear hv hm)
  | fail)
 go_ret
 refine ⟨v, rfl, ?_, HM.out.trans HV.out.2⟩
 rcases HV.out.1 with ⟨h1, h2 | ⟨g, cap, cur, h2, h3, h4⟩⟩
 ·exact ⟨h1, .inl h2⟩
 ·exact ⟨h1, .inr ⟨g, cap, cur, h2, by simp at h3; omega, h4⟩⟩
end Go.Proofs.YtolgeghdkoodnaaGreatDoor
set_option maxRecDepth 100000
namespace Go.Proofs.YtolgeghdkoodnaaGreatDoor
open Go.RowKit Go.Maps
def lostT (T : Tb) (f : Fr) : Tb :=
 if f.k = 16 then { T with tell := true }
 else if ¬ (f.id : Int) ∈ T.dom then T
 else if f.k = 8 ∧ (T.m f.id).out.isSome = true then setO T f.id (turnO lostF f.a f.d.length f.fl ((T.m f.id).out.getD (newO 0)))
 else if f.k = 4 then { T with m := updM T.m f.id (setTell (T.m f.id) 4 ((T.m f.id).reset && !(T.m f.id).done)) }
 else if f.k = 17 ∧ (T.m f.id).inn.isSome = true then { T with m := updM T.m f.id (setTell (T.m f.id) 17 true) }
 else T
theorem TBuf.setTell {B : Nat} {w : World} {tb mb : Nat} {G : Int → SM} {T : Tb} (q : TBuf B w tb mb G T) (b : Bool) : TT B w (w.setCell ⟨tb, 32, none⟩ (.bool b)) tb mb G G T { T with tell := b } :=
 q.setTT { T with tell := b } 10 (.bool b) rfl rfl rfl rfl rfl q.num
set_option maxHeartbeats 4000000 in
theorem tlost_any {B : Nat} {w : World} {tb mb : Nat} {G : Int → SM} {T : Tb} (q : TBuf B w tb mb G T) {f : Fr} {vd vr : Value} (hf : FrV w f vd vr) (hi : okId f.id) (hdl : f.d.length ≤ 1000000000) (hk5 : f.k ≠ 5) :
  Calls Tryz.prog 23 #[.pointer (some ⟨tb, 0, none⟩), frV f vd vr] w fun e w' => AckR B w w' tb mb G T (lostT T f) e := by
 obtain ⟨da, dc, rfl, -⟩ := Sl.val hf.d
 have HB := Lib.hid (FrB.new w f (.slice da f.d.length dc) vr hf.t)
 obtain ⟨b0, b1, b2, -, -, b5, b6, -⟩ := HB.out.cells
 have HM : Hid (Mod (fun _ => False) w (w.alloc (.cells (frC f (.slice da f.d.length dc) vr) 52))) := Lib.hid ((Mod.refl _ _).alloc _)
 have HQ := Lib.hid (q.still HM.out)
 have cm : (w.alloc (.cells (frC f (.slice da f.d.length dc) vr) 52)).cell? ⟨tb, 22, none⟩ = some (.map (some mb)) := HQ.out.mapc
 have hlk := HQ.out.lookX hi
 have HL := Lib.hid hdl
 have HQ0 := Lib.hid q
 clear q hf hdl
 unfold frV
 generalize frC f (.slice da f.d.length dc) vr = C at *
 by_cases h16 : f.k = 16
 ·have HE : Hid (lostT T f = { T with tell := true }) := Lib.hid (by unfold lostT; rw [if_pos h16])
  rw [h16] at b0
  have k32 : (w.alloc (.cells C 52)).cell? ⟨tb, 32, none⟩ = some (.bool T.tell) := HQ.out.cell 10 rfl
  have g32 : (w.alloc (.cells C 52)).frozen? ⟨tb, 32, none⟩ = false := HQ.out.blk.free 32
  have HF := Lib.hid (HQ.out.setTell true)
  clear h16 hlk b1 b2 b5 b6 cm
  go_enter Tryz.func23, Tryz.ntmps23
  go_wp2_with fail
  refine bodyPost_ret (results_none rfl _ _ _) rfl ?_
  rw [HE.out]
  exact ⟨rfl, ((HQ0.out.stay HM.out).trans HF.out).tc⟩
 ·have t16 : (f.k == 16) = false := by simpa using h16
  by_cases hd : (f.id : Int) ∈ T.dom
  ·have hs := HQ.out.strs _ hd
   have c0 : (w.alloc (.cells C 52)).cell? ⟨(G f.id).sb, 0, none⟩ = some (ptrO (G f.id).ob (T.m f.id).out) := hs.blk.cellAt 0 rfl
   simp only [if_pos hd] at hlk
   have HD := Lib.hid hd
   by_cases h8 : f.k = 8
   ·cases ho : (T.m f.id).out with
    | some o =>
     have HE : Hid (lostT T f = setO T f.id (turnO lostF f.a f.d.length f.fl o)) := Lib.hid (by unfold lostT; rw [if_neg h16, if_neg (fun h => h hd), if_pos ⟨h8, by rw [ho]; rfl⟩, ho]; rfl)
     have HO := Lib.hid ho
     have H8 := Lib.hid h8
     rw [h8] at b0
     rw [h8] at t16
     clear hs hd ho h8 h16 t16
     go_enter Tryz.func23, Tryz.ntmps23
     go_wp2_with fail
     go_quiet (fail)
     have HWX1 := Lib.hid ((Mod.refl (fun _ => False) (w.alloc (.cells C 52))).drewN nq)
     clear b0 b1 b2 b5 b6 cm hlk c0
     generalize (w.alloc (.cells C 52)).drewN nq = X1 at *
     have HQX1 := Lib.hid (HQ.out.still HWX1.out)
     have HBX1 := Lib.hid (HB.out.kept HWX1.out)
     have HMX1 := Lib.hid (HM.out.trans HWX1.out)
     obtain ⟨b0, b1, b2, -, -, b5, b6, -⟩ := HBX1.out.cells
     have cm : X1.cell? ⟨tb, 22, none⟩ = some (.map (some mb)) := HQX1.out.mapc
     have hlk := HQX1.out.lookX hi
     simp only [if_pos HD.out] at hlk
     have c0 : X1.cell? ⟨(G f.id).sb, 0, none⟩ = some (ptrO (G f.id).ob (T.m f.id).out) := (HQX1.out.strs _ HD.out).blk.cellAt 0 rfl
     rw [HO.out] at c0
     unfold ptrO at c0
     rw [H8.out] at b0
     go_upto_region 7 with fail
     refine wp_region_last (S := fun X => X1.drew = X) 11 (by kernel_rfl) rfl (fun hS => ?_)
     have HWY := Lib.hid ((Mod.refl (fun _ => False) X1).drew)
     clear b0 b1 b2 b5 b6 cm hlk c0
     generalize X1.drew = Y at *
     have HQY := Lib.hid (HQX1.out.still HWY.out)
     have HBY := Lib.hid (HBX1.out.kept HWY.out)
     have HMY := Lib.hid (HMX1.out.trans HWY.out)
     obtain ⟨b0, b1, b2, -, -, b5, b6, -⟩ := HBY.out.cells
     have cm : Y.cell? ⟨tb, 22, none⟩ = some (.map (some mb)) := HQY.out.mapc
     have hlk := HQY.out.lookX hi
     simp only [if_pos HD.out] at hlk
     have c0 : Y.cell? ⟨(G f.id).sb, 0, none⟩ = some (ptrO (G f.id).ob (T.m f.id).out) := (HQY.out.strs _ HD.out).blk.cellAt 0 rfl
     rw [HO.out] at c0
     unfold ptrO at c0
     have CA := Lib.hid (olost_any ((HQY.out.strs _ HD.out).out o HO.out) f.a f.d.length f.fl (by have := HL.out; omega))
     refine' tkL 0 _ (some 34) rfl rfl (by kernel_rfl) (fun _ _ _ => id) (Or.inl ⟨by rfl, fun X hX => ?_⟩) hS ?_; rotate_left
     ·go_simp; exact rfl
     (try go_frame); refine' tkL 1 _ (some 35) rfl rfl (by kernel_rfl) (fun _ _ _ => id) (Or.inl ⟨by rfl, fun X hX => ?_⟩) hS ?_; rotate_left
     ·go_simp; exact rfl
     (try go_frame); refine' tkL 2 _ (some 36) rfl rfl (by kernel_rfl) (fun _ _ _ => id) (Or.inl ⟨by rfl, fun X hX => ?_⟩) hS ?_; rotate_left
     ·go_simp; exact rfl
     (try go_frame); refine' tkL 3 _ (some 37) rfl rfl (by kernel_rfl) (fun _ _ _ => id) (Or.inl ⟨by rfl, fun X hX => ?_⟩) hS ?_; rotate_left
     ·have hX := (show Y = X from hX); subst hX; go_simp; exact rfl
     (try go_frame); refine' tkL 4 _ (some 38) rfl rfl (by kernel_rfl) (fun _ _ _ => id) (Or.inl ⟨by rfl, fun X hX => ?_⟩) hS ?_; rotate_left
     ·go_simp; exact rfl
     (try go_frame); refine' tkL 5 _ (some 39) rfl rfl (by kernel_rfl) (fun _ _ _ => id) (Or.inl ⟨by rfl, fun X hX => ?_⟩) hS ?_; rotate_left
     ·have hX := (show Y = X from hX); subst hX; go_simp; exact rfl
     (try go_frame); refine' tkL 6 _ (some 40) rfl rfl (by kernel_rfl) (fun _ _ _ => id) (Or.inl ⟨by rfl, fun X hX => ?_⟩) hS ?_; rotate_left
     ·go_simp; exact rfl
     (try go_frame); refine' tkL 7 _ (some 41) rfl rfl (by kernel_rfl) (fun _ _ _ => id) (Or.inl ⟨by rfl, fun X hX => ?_⟩) hS ?_; rotate_left
     ·have hX := (show Y = X from hX); subst hX; go_simp; exact rfl
     (try go_frame); refine' tkL 8 _ (some 42) rfl rfl (by kernel_rfl) (fun _ _ _ => id) (Or.inl ⟨by rfl, fun X hX => ?_⟩) hS ?_; rotate_left
     ·go_simp; exact rfl
     (try go_frame); refine' tkL 9 _ (some 43) rfl rfl (by kernel_rfl) (fun _ _ _ => id) (Or.inl ⟨by rfl, fun X hX => ?_⟩) hS ?_; rotate_left
     ·go_simp; exact rfl
     (try go_frame); refine' tkL 10 _ (some 44) rfl rfl (by kernel_rfl) (fun _ _ _ => id) (Or.inl ⟨by rfl, fun X hX => ?_⟩) hS ?_; rotate_left
     ·have hX := (show Y = X from hX); subst hX; go_simp; exact rfl
     (try go_frame); refine wpAnyL.ready (rs := [11]) (by kernel_rfl) (by simp) ?_
     refine AllReadyL.closing (o := ⟨some 45, _, _, _, _, none⟩) rfl (fun K hK => ?_)
     go_simp
     refine CA.out.mono ?_
     rintro e w2 ⟨rfl, hq2, hM2⟩
     have HR := Lib.hid (And.intro hq2 hM2)
     refine hK.out _ _ ?_
     clear hK K hq2 hM2
     refine wpAnyL.done (by kernel_rfl) ?_ _
     go_wp2_with fail
     go_end0
     obtain ⟨g', hsc⟩ := (HQY.out.strs _ HD.out).outS HO.out ⟨_, _, HR.out.1, fun k hk => .inl hk, HR.out.2⟩
     rw [HE.out]
     exact ⟨rfl, TC.trans (HQ0.out.stay HMY.out) (hsc.table HQY.out HD.out)⟩
    | none =>
     have HE : Hid (lostT T f = T) := Lib.hid (by unfold lostT; rw [if_neg h16, if_neg (fun h => h hd), if_neg (fun h => by rw [ho] at h; cases h.2), if_neg (by omega), if_neg (by rintro ⟨h, _⟩; omega)])
     have HO := Lib.hid ho
     have H8 := Lib.hid h8
     rw [h8] at b0
     rw [h8] at t16
     clear hs hd ho h8 h16 t16
     go_enter Tryz.func23, Tryz.ntmps23
     go_wp2_with fail
     go_quiet (fail)
     have HWX1 := Lib.hid ((Mod.refl (fun _ => False) (w.alloc (.cells C 52))).drewN nq)
     clear b0 b1 b2 b5 b6 cm hlk c0
     generalize (w.alloc (.cells C 52)).drewN nq = X1 at *
     have HQX1 := Lib.hid (HQ.out.still HWX1.out)
     have HBX1 := Lib.hid (HB.out.kept HWX1.out)
     have HMX1 := Lib.hid (HM.out.trans HWX1.out)
     obtain ⟨b0, b1, b2, -, -, b5, b6, -⟩ := HBX1.out.cells
     have cm : X1.cell? ⟨tb, 22, none⟩ = some (.map (some mb)) := HQX1.out.mapc
     have hlk := HQX1.out.lookX hi
     simp only [if_pos HD.out] at hlk
     have c0 : X1.cell? ⟨(G f.id).sb, 0, none⟩ = some (ptrO (G f.id).ob (T.m f.id).out) := (HQX1.out.strs _ HD.out).blk.cellAt 0 rfl
     rw [HO.out] at c0
     unfold ptrO at c0
     rw [H8.out] at b0
     go_wp2_with fail
     go_end0
     rw [HE.out]
     exact ⟨rfl, HQ0.out.tc HMX1.out⟩
   ·have t8 : (f.k == 8) = false := by simpa using h8
    by_cases h4 : f.k = 4
    ·have HE : Hid (lostT T f = { T with m := updM T.m f.id (setTell (T.m f.id) 4 ((T.m f.id).reset && !(T.m f.id).done)) }) := Lib.hid (by unfold lostT; rw [if_neg h16, if_neg (fun h => h hd), if_neg (fun h => h8 h.1), if_pos h4])
     have H4 := Lib.hid h4
     rw [h4] at b0
     rw [h4] at t16 t8
     clear hs hd h8 h16 h4 t16 t8
     go_enter Tryz.func23, Tryz.ntmps23
     go_wp2_with fail
     go_quiet (fail)
     have HWX1 := Lib.hid ((Mod.refl (fun _ => False) (w.alloc (.cells C 52))).drewN nq)
     clear b0 b1 b2 b5 b6 cm hlk c0
     generalize (w.alloc (.cells C 52)).drewN nq = X1 at *
     have HQX1 := Lib.hid (HQ.out.still HWX1.out)
     have HBX1 := Lib.hid (HB.out.kept HWX1.out)
     have HMX1 := Lib.hid (HM.out.trans HWX1.out)
     obtain ⟨b0, b1, b2, -, -, b5, b6, -⟩ := HBX1.out.cells
     have cm : X1.cell? ⟨tb, 22, none⟩ = some (.map (some mb)) := HQX1.out.mapc
     have hlk := HQX1.out.lookX hi
     simp only [if_pos HD.out] at hlk
     rw [H4.out] at b0
     go_upto_region 9 with fail
     refine wp_region_last (S := fun X => X1.drew = X) 15 (by kernel_rfl) rfl (fun hS => ?_)
     have HWY := Lib.hid ((Mod.refl (fun _ => False) X1).drew)
     clear b0 b1 b2 b5 b6 cm hlk
     generalize X1.drew = Y at *
     have HQY := Lib.hid (HQX1.out.still HWY.out)
     have HBY := Lib.hid (HBX1.out.kept HWY.out)
     have HMY := Lib.hid (HMX1.out.trans HWY.out)
     obtain ⟨b0, b1, b2, -, -, b5, b6, -⟩ := HBY.out.cells
     have cm : Y.cell? ⟨tb, 22, none⟩ = some (.map (some mb)) := HQY.out.mapc
     have hlk := HQY.out.lookX hi
     simp only [if_pos HD.out] at hlk
     have hs2 := HQY.out.strs _ HD.out
     have d11 : Y.cell? ⟨(G f.id).sb, 11, none⟩ = some (.map (some (G f.id).tb)) := hs2.blk.cellAt 11 rfl
     have d10 : Y.cell? ⟨(G f.id).sb, 10, none⟩ = some (.bool (T.m f.id).done) := hs2.blk.cellAt 10 rfl
     have d4 : Y.cell? ⟨(G f.id).sb, 4, none⟩ = some (.bool (T.m f.id).reset) := hs2.blk.cellAt 4 rfl
     obtain ⟨w2, hr2, hsc2⟩ := hs2.tellPut (z := 4) (.inl rfl) ((T.m f.id).reset && !(T.m f.id).done)
     have HR2 := Lib.hid hr2
     have HSC2 := Lib.hid hsc2
     clear hr2 hsc2 hs2
     obtain ⟨rs, hrs⟩ : ∃ rs, rs = (T.m f.id).reset := ⟨_, rfl⟩
     obtain ⟨dn, hdn⟩ : ∃ dn, dn = (T.m f.id).done := ⟨_, rfl⟩
     rw [← hrs] at d4 HR2
     rw [← hdn] at d10 HR2
     clear hrs hdn
     cases rs with
     | true =>
      refine' tkL 0 _ (some 50) rfl rfl (by kernel_rfl) (fun _ _ _ => id) (Or.inl ⟨by rfl, fun X hX => ?_⟩) hS ?_; rotate_left
      ·go_simp; exact rfl
      (try go_frame); refine' tkL 1 _ (some 51) rfl rfl (by kernel_rfl) (fun _ _ _ => id) (Or.inl ⟨by rfl, fun X hX => ?_⟩) hS ?_; rotate_left
      ·go_simp; exact rfl
      (try go_frame); refine' tkL 2 _ (some 52) rfl rfl (by kernel_rfl) (fun _ _ _ => id) (Or.inl ⟨by rfl, fun X hX => ?_⟩) hS ?_; rotate_left
      ·go_simp; exact rfl
      (try go_frame); refine' tkL 3 _ (some 53) rfl rfl (by kernel_rfl) (fun _ _ _ => id) (Or.inl ⟨by rfl, fun X hX => ?_⟩) hS ?_; rotate_left
      ·have hX := (show Y = X from hX); subst hX; go_simp; exact rfl
      (try go_frame); refine' tkL 4 _ (some 54) rfl rfl (by kernel_rfl) (fun _ _ _ => id) (Or.inl ⟨by rfl, fun X hX => ?_⟩) hS ?_; rotate_left
      ·go_simp; exact rfl
      (try go_frame); refine' tkL 5 _ (some 55) rfl rfl (by kernel_rfl) (fun _ _ _ => id) (Or.inl ⟨by rfl, fun X hX => ?_⟩) hS ?_; rotate_left
      ·go_simp; exact rfl
      (try go_frame); refine' tkL 6 _ (some 56) rfl rfl (by kernel_rfl) (fun _ _ _ => id) (Or.inl ⟨by rfl, fun X hX => ?_⟩) hS ?_; rotate_left
      ·go_simp; exact rfl
      (try go_frame); refine' tkL 7 _ (some 57) rfl rfl (by kernel_rfl) (fun _ _ _ => id) (Or.inl ⟨by rfl, fun X hX => ?_⟩) hS ?_; rotate_left
      ·have hX := (show Y = X from hX); subst hX; go_simp; exact rfl
      (try go_frame); refine' tkL 8 _ (some 58) rfl rfl (by kernel_rfl) (fun _ _ _ => id) (Or.inl ⟨by rfl, fun X hX => ?_⟩) hS ?_; rotate_left
      ·go_simp; exact rfl
      (try go_frame); refine' tkL 9 _ (some 59) rfl rfl (by kernel_rfl) (fun _ _ _ => id) (Or.inl ⟨by rfl, fun X hX => ?_⟩) hS ?_; rotate_left
      ·go_simp; exact rfl
      (try go_frame); refine' tkL 10 _ (some 60) rfl rfl (by kernel_rfl) (fun _ _ _ => id) (Or.inl ⟨by rfl, fun X hX => ?_⟩) hS ?_; rotate_left
      ·go_simp; exact rfl
      (try go_frame); refine' tkL 11 _ (some 61) rfl rfl (by kernel_rfl) (fun _ _ _ => id) (Or.inl ⟨by rfl, fun X hX => ?_⟩) hS ?_; rotate_left
      ·go_simp; exact rfl
      (try go_frame); refine' tkL 12 _ (some 62) rfl rfl (by kernel_rfl) (fun _ _ _ => id) (Or.inl ⟨by rfl, fun X hX => ?_⟩) hS ?_; rotate_left
      ·have hX := (show Y = X from hX); subst hX; go_simp; exact rfl
      (try go_frame); refine' tkL 13 _ (some 63) rfl rfl (by kernel_rfl) (fun _ _ _ => id) (Or.inl ⟨by rfl, fun X hX => ?_⟩) hS ?_; rotate_left
      ·go_simp; exact rfl
      (try go_frame); refine tkL 14 (.bool (true && !dn)) (some 64) rfl rfl (by kernel_rfl) (fun _ _ _ => id) (Or.inl ⟨by rfl, fun X hX => ?_⟩) hS ?_
      ·go_simp
      (try go_frame); refine wpAnyL.ready (rs := [15]) (by kernel_rfl) (by simp) ?_
      refine AllReadyL.closing (o := ⟨none, _, _, _, _, none⟩) rfl (fun K hK => ?_)
      refine step_skipr rfl (exec_iput (m := .tmp 53) (x := .const (.int .i64 4)) (v := .tmp 64) rfl rfl rfl rfl HR2.out) ?_
      refine hK.out _ _ ?_
      clear hK K
      refine wpAnyL.done (by kernel_rfl) ?_ _
      go_wp2_with fail
      go_end0
      rw [HE.out]
      exact ⟨rfl, TC.trans (HQ0.out.stay HMY.out) (HSC2.out.table HQY.out HD.out)⟩
     | false =>
      refine' tkL 0 _ (some 50) rfl rfl (by kernel_rfl) (fun _ _ _ => id) (Or.inl ⟨by rfl, fun X hX => ?_⟩) hS ?_; rotate_left
      ·go_simp; exact rfl
      (try go_frame); refine' tkL 1 _ (some 51) rfl rfl (by kernel_rfl) (fun _ _ _ => id) (Or.inl ⟨by rfl, fun X hX => ?_⟩) hS ?_; rotate_left
      ·go_simp; exact rfl
      (try go_frame); refine' tkL 2 _ (some 52) rfl rfl (by kernel_rfl) (fun _ _ _ => id) (Or.inl ⟨by rfl, fun X hX => ?_⟩) hS ?_; rotate_left
      ·go_simp; exact rfl
      (try go_frame); refine' tkL 3 _ (some 53) rfl rfl (by kernel_rfl) (fun _ _ _ => id) (Or.inl ⟨by rfl, fun X hX => ?_⟩) hS ?_; rotate_left
      ·have hX := (show Y = X from hX); subst hX; go_simp; exact rfl
      (try go_frame); refine' tkL 4 _ (some 54) rfl rfl (by kernel_rfl) (fun _ _ _ => id) (Or.inl ⟨by rfl, fun X hX => ?_⟩) hS ?_; rotate_left
      ·go_simp; exact rfl
      (try go_frame); refine' tkL 5 _ (some 55) rfl rfl (by kernel_rfl) (fun _ _ _ => id) (Or.inl ⟨by rfl, fun X hX => ?_⟩) hS ?_; rotate_left
      ·go_simp; exact rfl
      (try go_frame); refine' tkL 6 _ (some 56) rfl rfl (by kernel_rfl) (fun _ _ _ => id) (Or.inl ⟨by rfl, fun X hX => ?_⟩) hS ?_; rotate_left
      ·go_simp; exact rfl
      (try go_frame); refine' tkL 7 _ (some 57) rfl rfl (by kernel_rfl) (fun _ _ _ => id) (Or.inl ⟨by rfl, fun X hX => ?_⟩) hS ?_; rotate_left
      ·have hX := (show Y = X from hX); subst hX; go_simp; exact rfl
      (try go_frame); refine' tkL 8 _ (some 58) rfl rfl (by kernel_rfl) (fun _ _ _ => id) (Or.inl ⟨by rfl, fun X hX => ?_⟩) hS ?_; rotate_left
      ·go_simp; exact rfl
      (try go_frame); refine tkL 9 undef (some 59) rfl rfl (by kernel_rfl) (fun _ _ _ => id) (Or.inr ⟨by rfl, rfl⟩) hS ?_
      (try go_frame); refine tkL 10 undef (some 60) rfl rfl (by kernel_rfl) (fun _ _ _ => id) (Or.inr ⟨by rfl, rfl⟩) hS ?_
      (try go_frame); refine tkL 11 undef (some 61) rfl rfl (by kernel_rfl) (fun _ _ _ => id) (Or.inr ⟨by rfl, rfl⟩) hS ?_
      (try go_frame); refine tkL 12 undef (some 62) rfl rfl (by kernel_rfl) (fun _ _ _ => id) (Or.inr ⟨by rfl, rfl⟩) hS ?_
      (try go_frame); refine tkL 13 undef (some 63) rfl rfl (by kernel_rfl) (fun _ _ _ => id) (Or.inr ⟨by rfl, rfl⟩) hS ?_
      (try go_frame); refine tkL 14 (.bool (false && !dn)) (some 64) rfl rfl (by kernel_rfl) (fun _ _ _ => id) (Or.inl ⟨by rfl, fun X hX => ?_⟩) hS ?_
      ·go_simp
      (try go_frame); refine wpAnyL.ready (rs := [15]) (by kernel_rfl) (by simp) ?_
      refine AllReadyL.closing (o := ⟨none, _, _, _, _, none⟩) rfl (fun K hK => ?_)
      refine step_skipr rfl (exec_iput (m := .tmp 53) (x := .const (.int .i64 4)) (v := .tmp 64) rfl rfl rfl rfl HR2.out) ?_
      refine hK.out _ _ ?_
      clear hK K
      refine wpAnyL.done (by kernel_rfl) ?_ _
      go_wp2_with fail
      go_end0
      rw [HE.out]
      exact ⟨rfl, TC.trans (HQ0.out.stay HMY.out) (HSC2.out.table HQY.out HD.out)⟩
    ·have t4 : (f.k == 4) = false := by simpa using h4
     have t5 : (f.k == 5) = false := by simpa using hk5
     by_cases h17 : f.k = 17
     ·cases hi2 : (T.m f.id).inn with
      | some o =>
       have HE : Hid (lostT T f = { T with m := updM T.m f.id (setTell (T.m f.id) 17 true) }) := Lib.hid (by unfold lostT; rw [if_neg h16, if_neg (fun h => h hd), if_neg (fun h => h8 h.1), if_neg h4, if_pos ⟨h17, by rw [hi2]; rfl⟩])
       have H17 := Lib.hid h17
       have HI2 := Lib.hid hi2
       rw [h17] at b0 t16 t8 t4 t5
       clear hs hd h8 h16 h4 t16 t8 h17 t4 t5 hk5 hi2
       go_enter Tryz.func23, Tryz.ntmps23
       go_wp2_with fail
       go_quiet (fail)
       have HWX1 := Lib.hid ((Mod.refl (fun _ => False) (w.alloc (.cells C 52))).drewN nq)
       clear b0 b1 b2 b5 b6 cm hlk c0
       generalize (w.alloc (.cells C 52)).drewN nq = X1 at *
       have HQX1 := Lib.hid (HQ.out.still HWX1.out)
       have HBX1 := Lib.hid (HB.out.kept HWX1.out)
       have HMX1 := Lib.hid (HM.out.trans HWX1.out)
       obtain ⟨b0, b1, b2, -, -, b5, b6, -⟩ := HBX1.out.cells
       have cm : X1.cell? ⟨tb, 22, none⟩ = some (.map (some mb)) := HQX1.out.mapc
       have hlk := HQX1.out.lookX hi
       simp only [if_pos HD.out] at hlk
       rw [H17.out] at b0
       have hs2 := HQX1.out.strs _ HD.out
       have d11 : X1.cell? ⟨(G f.id).sb, 11, none⟩ = some (.map (some (G f.id).tb)) := hs2.blk.cellAt 11 rfl
       have d1 : X1.cell? ⟨(G f.id).sb, 1, none⟩ = some (ptrI (G f.id).ib (T.m f.id).inn) := hs2.blk.cellAt 1 rfl
       rw [HI2.out] at d1
       unfold ptrI at d1
       obtain ⟨w2, hr2, hsc2⟩ := hs2.tellPut (z := 17) (.inr (.inr rfl)) true
       have HR2 := Lib.hid hr2
       have HSC2 := Lib.hid hsc2
       clear hr2 hsc2 hs2
       go_wp2_with (first
        | ((with_reducible refine wpList_skipr ?_ (exec_iput (m := .tmp 113) (x := .const (.int .i64 17)) (v := .const (.bool true)) ?_ ?_ ?_ ?_ HR2.out) ?_); (iterate 5 exact rfl))
        | fail)
       go_end0
       rw [HE.out]
       exact ⟨rfl, TC.trans (HQ0.out.stay HMX1.out) (HSC2.out.table HQX1.out HD.out)⟩
      | none =>
       have HE : Hid (lostT T f = T) := Lib.hid (by unfold lostT; rw [if_neg h16, if_neg (fun h => h hd), if_neg (fun h => h8 h.1), if_neg h4, if_neg (fun h => by rw [hi2] at h; cases h.2)])
       have H17 := Lib.hid h17
       have HI2 := Lib.hid hi2
       rw [h17] at b0 t16 t8 t4 t5
       clear hs hd h8 h16 h4 t16 t8 h17 t4 t5 hk5 hi2
       go_enter Tryz.func23, Tryz.ntmps23
       go_wp2_with fail
       go_quiet (fail)
       have HWX1 := Lib.hid ((Mod.refl (fun _ => False) (w.alloc (.cells C 52))).drewN nq)
       clear b0 b1 b2 b5 b6 cm hlk c0
       generalize (w.alloc (.cells C 52)).drewN nq = X1 at *
       have HQX1 := Lib.hid (HQ.out.still HWX1.out)
       have HBX1 := Lib.hid (HB.out.kept HWX1.out)
       have HMX1 := Lib.hid (HM.out.trans HWX1.out)
       obtain ⟨b0, b1, b2, -, -, b5, b6, -⟩ := HBX1.out.cells
       have cm : X1.cell? ⟨tb, 22, none⟩ = some (.map (some mb)) := HQX1.out.mapc
       have hlk := HQX1.out.lookX hi
       simp only [if_pos HD.out] at hlk
       rw [H17.out] at b0
       have d1 : X1.cell? ⟨(G f.id).sb, 1, none⟩ = some (ptrI (G f.id).ib (T.m f.id).inn) := (HQX1.out.strs _ HD.out).blk.cellAt 1 rfl
       rw [HI2.out] at d1
       unfold ptrI at d1
       go_wp2_with fail
       go_end0
       rw [HE.out]
       exact ⟨rfl, HQ0.out.tc HMX1.out⟩
     ·have t17 : (f.k == 17) = false := by simpa using h17
      have HE : Hid (lostT T f = T) := Lib.hid (by unfold lostT; rw [if_neg h16, if_neg (fun h => h hd), if_neg (fun h => h8 h.1), if_neg h4, if_neg (fun h => h17 h.1)])
      clear hs hd h8 h16 h4 h17 hk5
      go_enter Tryz.func23, Tryz.ntmps23
      go_wp2_with fail
      go_quiet (fail)
      have HWX1 := Lib.hid ((Mod.refl (fun _ => False) (w.alloc (.cells C 52))).drewN nq)
      clear b0 b1 b2 b5 b6 cm hlk c0
      generalize (w.alloc (.cells C 52)).drewN nq = X1 at *
      have HQX1 := Lib.hid (HQ.out.still HWX1.out)
      have HBX1 := Lib.hid (HB.out.kept HWX1.out)
      have HMX1 := Lib.hid (HM.out.trans HWX1.out)
      obtain ⟨b0, b1, b2, -, -, b5, b6, -⟩ := HBX1.out.cells
      have cm : X1.cell? ⟨tb, 22, none⟩ = some (.map (some mb)) := HQX1.out.mapc
      have hlk := HQX1.out.lookX hi
      simp only [if_pos HD.out] at hlk
      go_wp2_with fail
      go_end0
      rw [HE.out]
      exact ⟨rfl, HQ0.out.tc HMX1.out⟩
  ·simp only [if_neg hd] at hlk
   have HE : Hid (lostT T f = T) := Lib.hid (by unfold lostT; rw [if_neg h16, if_pos hd])
   clear hd h16 hk5
   go_enter Tryz.func23, Tryz.ntmps23
   go_wp2_with fail
   go_quiet (fail)
   go_wp2_with fail
   go_end0
   rw [HE.out]
   exact ⟨rfl, HQ0.out.tc (HM.out.drewN _)⟩
end Go.Proofs.YtolgeghdkoodnaaGreatDoor
set_option maxRecDepth 100000
namespace Go.Proofs.YtolgeghdkoodnaaGreatDoor
open Go.RowKit Go.Maps
theorem tacks_any {B : Nat} {w : World} {tb mb : Nat} {G : Int → SM} {T : Tb} (q : TBuf B w tb mb G T) {id : Nat} (hi : okId id) (hd : (id : Int) ∈ T.dom) {o : OB} (ho : (T.m id).out = some o) (off n : Nat) (hn : (n : Int) ≤ 1000000000) :
  Calls Tryz.prog 26 #[.pointer (some ⟨tb, 0, none⟩), .int .u64 (id : Int), .int .u64 (off : Int), .int .i64 (n : Int)] w fun e w' => e = .returned (.bool (hadO o off n)) ∧ Mod (fun _ => False) w w' := by
 have cm := q.mapc
 have hl := q.look hi
 rw [if_pos hd] at hl
 have hs := q.strs _ hd
 have c0 : w.cell? ⟨(G id).sb, 0, none⟩ = some (ptrO (G id).ob (T.m id).out) := hs.blk.cellAt 0 rfl
 rw [ho] at c0
 unfold ptrO at c0
 obtain ⟨z, hz⟩ : ∃ z : Int, (off : Int) = z := ⟨_, rfl⟩
 have HH := Lib.hid (ohad_any (hs.out o ho) off n z hz hn)
 rw [hz]
 clear hs hd q ho hz hn
 generalize (n : Int) = m at *
 go_enter Tryz.func26, Tryz.ntmps26
 go_wp2_with (first
  | (go_at_call 55; (with_reducible refine HH.out.mono ?_); rintro e w1 ⟨rfl, rfl⟩)
  | fail)
 go_ret
 exact ⟨rfl, Mod.refl _ _⟩
theorem OwnU.val {w : World} {B : Nat} {v : Value} {l : List Int} (h : OwnU w B v l) : ∃ a cap, v = .slice a l.length cap := by
 rcases h.2 with ⟨rfl, h0⟩ | ⟨g, cap, cur, rfl, _⟩
 ·exact ⟨none, 0, by rw [h0]⟩
 ·exact ⟨_, cap, rfl⟩
theorem OwnU.at {w : World} {B i n cap : Nat} {a : Option Addr} {l : List Int} {x : Int} (h : OwnU w B (.slice a n cap) l) (hi : l[i]? = some x) : ∃ g, a = some ⟨g, 0, none⟩ ∧ w.cell? ⟨g, i, none⟩ = some (.int .u64 x) := by
 have hlt := (List.getElem?_eq_some_iff.1 hi).1
 rcases h.2 with ⟨e, h0⟩ | ⟨g, cap', cur, e, _⟩
 ·omega
 ·have hn : n = l.length := by simp at e; exact e.2.1
  subst hn
  obtain rfl : a = some ⟨g, 0, none⟩ := by simpa using And.left (by simpa using e)
  refine ⟨g, rfl, ?_⟩
  have := World.ownsRow.cellAt h i (by omega)
  rw [this, List.getElem?_map, hi]
  rfl
theorem OwnU.kept {w w' : World} {B : Nat} {v : Value} {l : List Int} (h : OwnU w B v l) {S : Nat → Prop} (hM : Mod S w w') (hS : ∀ g, v.ownBlock = some g → ¬ S g) : OwnU w' B v l := hM.own h hS
theorem TBuf.lookI {B : Nat} {w : World} {tb mb : Nat} {G : Int → SM} {T : Tb} (q : TBuf B w tb mb G T) {z : Int} (hz : z ∈ T.dom) :
  (Instr.lookup 72 (.map (some mb)) (.int .u64 z) false).run Tryz.prog w = .ok (.pointer (some ⟨(G z).sb, 0, none⟩)) w := by
 have h := q.ids z hz
 obtain ⟨n, rfl⟩ := Int.eq_ofNat_of_zero_le h.1
 have := q.look (id := n) (by unfold okId; omega)
 rw [if_pos hz] at this
 exact this
def heldS (s : St) : Nat := if s.over then 0 else (s.inn.map (fun o => o.dom.length)).getD 0
def heldN (T : Tb) (l : List Int) : Nat := (l.map (fun z => heldS (T.m z))).sum
theorem heldN_succ (T : Tb) {l : List Int} {k : Nat} {z : Int} (h : l[k]? = some z) : heldN T (l.take (k + 1)) = heldN T (l.take k) + heldS (T.m z) := by
 unfold heldN
 rw [List.take_add_one, h]
 simp
theorem held_any {B : Nat} {w : World} {tb mb : Nat} {G : Int → SM} {T : Tb} (q : TBuf B w tb mb G T) (hlen : T.dom.length ≤ lenMax) :
  Calls Tryz.prog 21 #[.pointer (some ⟨tb, 0, none⟩)] w fun e w' => e = .returned (.int .i64 (heldN T (sortI T.dom) : Int)) ∧ Mod (fun _ => False) w w' := by
 have HI := Lib.hid (ids_any q hlen)
 have HQ := Lib.hid q
 have HN : Hid ((sortI T.dom).length ≤ 1000) := Lib.hid (by rw [sortI_len]; unfold lenMax at hlen; omega)
 clear q hlen
 go_enter Tryz.func21, Tryz.ntmps21
 go_wp2_with (first
  | (go_at_call 12; (with_reducible refine HI.out.mono ?_); rintro e w1 ⟨v, rfl, hv, hm⟩; obtain ⟨a, cap, rfl⟩ := hv.val; have HV := Lib.hid hv; have HM := Lib.hid hm; clear hv hm)
  | fail)
 have HQ1 := Lib.hid (HQ.out.still HM.out)
 have cm := HQ1.out.mapc
 generalize hL : sortI T.dom = L at *
 have HL := Lib.hid hL
 clear hL
 generalize hn : L.length = n at *
 have HLn := Lib.hid hn
 clear hn
 go_loopw [3, 10] (fun s3 s10 wr => ∃ k : Nat, k ≤ n ∧ s10 = .int .i64 k ∧ s3 = .int .i64 (heldN T (L.take k) : Int) ∧ w1 = wr ∧ Hid ((heldN T (L.take k) : Int) ≤ (k : Int) * 100000)) (fun _ s10 _ => n - (intOf s10).toNat)
 case atStart => exact ⟨0, Nat.zero_le _, rfl, rfl, rfl, Lib.hid (by simp [heldN])⟩
 case round =>
  obtain ⟨k, hk, rfl, rfl, rfl, HB⟩ := hrel
  by_cases hkn : k < n
  ·obtain ⟨z, hz⟩ : ∃ z, L[k]? = some z := ⟨_, List.getElem?_eq_getElem (by rw [HLn.out]; exact hkn)⟩
   obtain ⟨g, rfl, cg⟩ := HV.out.at hz
   have hzd : z ∈ T.dom := by rw [← sortI_mem, HL.out]; exact List.mem_of_getElem? hz
   have hs := HQ1.out.strs z hzd
   have hl := HQ1.out.lookI hzd
   have c5 : w1.cell? ⟨(G z).sb, 5, none⟩ = some (.bool (T.m z).over) := hs.blk.cellAt 5 rfl
   have c1 : w1.cell? ⟨(G z).sb, 1, none⟩ = some (ptrI (G z).ib (T.m z).inn) := hs.blk.cellAt 1 rfl
   have HS := Lib.hid (heldN_succ T hz)
   have hk2 := HN.out
   generalize heldN T (L.take k) = x at *
   cases hr : (T.m z).over with
   | true =>
    have HE : Hid (heldS (T.m z) = 0) := Lib.hid (by unfold heldS; rw [if_pos hr])
    rw [hr] at c5
    clear hs hz hzd
    go_wp2_with fail
    go_roundw
    case rel => exact ⟨k + 1, by omega, by go_num, by rw [HS.out, HE.out]; simp, trivial, Lib.hid (by rw [HS.out, HE.out]; have := HB.out; push_cast; omega)⟩
    case measure => simp [intOf]; omega
   | false =>
    rw [hr] at c5
    cases hin : (T.m z).inn with
    | none =>
     have HE : Hid (heldS (T.m z) = 0) := Lib.hid (by unfold heldS; rw [hr, hin]; rfl)
     rw [hin] at c1
     unfold ptrI at c1
     clear hs hz hzd
     have hw : IntKind.i64.wrap (x : Int) = (x : Int) := IntWalk.i64_in (x : Int) (by have := HB.out; omega)
     go_wp2_with (first
      | (go_at_call 51; (with_reducible refine (iheld_nil _).mono ?_); rintro e w2 ⟨rfl, rfl⟩)
      | fail)
     go_roundw
     case rel => exact ⟨k + 1, by omega, by go_num, by rw [HS.out, HE.out]; simp, trivial, Lib.hid (by rw [HS.out, HE.out]; have := HB.out; push_cast; omega)⟩
     case measure => simp [intOf]; omega
    | some o =>
     have HE : Hid (heldS (T.m z) = o.dom.length) := Lib.hid (by unfold heldS; rw [hr, hin]; rfl)
     rw [hin] at c1
     unfold ptrI at c1
     have HO := Lib.hid (iheld_any (hs.inn o hin))
     have HSZ := Lib.hid (hs.inn o hin).size
     have hw : IntKind.i64.wrap ((x : Int) + (o.dom.length : Int)) = ((x + o.dom.length : Nat) : Int) := by rw [IntWalk.i64_in ((x : Int) + (o.dom.length : Int)) (by have := HB.out; have := HSZ.out; omega)]; omega
     clear hs hz hzd
     obtain ⟨S, hS⟩ : ∃ S : Int, S = ((x + o.dom.length : Nat) : Int) := ⟨_, rfl⟩
     rw [← hS] at hw
     have HSS := Lib.hid hS
     clear hS
     generalize (o.dom.length : Int) = y at *
     go_wp2_with (first
      | (go_at_call 51; (with_reducible refine HO.out.mono ?_); rintro e w2 ⟨rfl, rfl⟩)
      | fail)
     go_roundw
     case rel => exact ⟨k + 1, by omega, by go_num, by rw [HS.out, HE.out, HSS.out], trivial, Lib.hid (by rw [HS.out, HE.out]; have := HB.out; have := HSZ.out; push_cast; omega)⟩
     case measure => simp [intOf]; omega
  ·have t1 : decide ((k : Int) < (n : Int)) = false := decide_eq_false (by omega)
   have HK : Hid (L.take k = L) := Lib.hid (List.take_of_length_le (by rw [HLn.out]; omega))
   rw [HK.out]
   go_wp2_with fail
   go_ret
   exact ⟨by rw [HL.out]; rfl, HM.out⟩
end Go.Proofs.YtolgeghdkoodnaaGreatDoor
set_option maxRecDepth 100000
namespace Go.Proofs.YtolgeghdkoodnaaGreatDoor
open Go.RowKit Go.Maps
theorem IBuf.base {B B' : Nat} {w : World} {ib mb : Nat} {o : IB} (q : IBuf B w ib mb o) (h : B' ≤ B) : IBuf B' w ib mb o := ⟨Nat.le_trans h q.at0, Nat.le_trans h q.at1, q.blk, q.map, q.doms, q.ok⟩
theorem OwnB.base {B B' : Nat} {w : World} {v : Value} {l : List UInt8} (q : OwnB w B v l) (h : B' ≤ B) : OwnB w B' v l := by
 rcases q with ⟨h1, h2 | ⟨g, cap, cur, h2, h3, h4⟩⟩
 ·exact ⟨h1, .inl h2⟩
 ·exact ⟨h1, .inr ⟨g, cap, cur, h2, by omega, h4⟩⟩
theorem OBuf.base {B B' : Nat} {w : World} {ob : Nat} {bv sv : Value} {o : OB} (q : OBuf B w ob bv sv o) (h : B' ≤ B) : OBuf B' w ob bv sv o := { q with at0 := Nat.le_trans h q.at0, b := q.b.base h, s := q.s.base h }
theorem SBuf.putOut {B : Nat} {w w1 : World} {g : SM} {s : St} {ob : Nat} {bv sv : Value} {o : OB} (q : SBuf B w g s) (hB : B ≤ w.heap.size) (hM : Mod (fun _ => False) w w1) (hO : OBuf w.heap.size w1 ob bv sv o) :
  SC B w (w1.setCell ⟨g.sb, 0, none⟩ (.pointer (some ⟨ob, 0, none⟩))) g { g with ob := ob, bv := bv, sv := sv } s { s with out := some o } := by
 have hM2 : Mod (fun k => k = g.sb) w (w1.setCell ⟨g.sb, 0, none⟩ (.pointer (some ⟨ob, 0, none⟩))) := (hM.mono (T := fun k => k = g.sb) (fun _ _ h => h.elim)).setCell (p := ⟨g.sb, 0, none⟩) (fun _ => rfl) _
 have hM1 : Mod (fun k => k = g.sb) w1 (w1.setCell ⟨g.sb, 0, none⟩ (.pointer (some ⟨ob, 0, none⟩))) := (Mod.refl (fun k => k = g.sb) _).setCell (p := ⟨g.sb, 0, none⟩) (fun _ => rfl) _
 have hlt := q.lt
 have hsb := (hlt g.sb (.inl rfl)).2
 have n1 : ∀ k, OS ob bv sv k → w.heap.size ≤ k ∧ k < w1.heap.size := fun k hk => hO.lt k hk
 have hs1 : w1.heap.size ≤ (w1.setCell ⟨g.sb, 0, none⟩ (.pointer (some ⟨ob, 0, none⟩))).heap.size := hM1.size
 refine ⟨⟨q.at0, q.att, ?_, ?_, ?_, ?_, ?_, ?_, ?_, q.ts, q.num⟩, rfl, ?_, hM2.mono (fun k _ e => .inl e)⟩
 ·exact (hM.blk q.blk (fun h => h)).set 0 _
 ·intro o2 h2
  cases h2
  exact (hO.base hB).kept hM1 (fun k hk e => by have := (n1 k hk).1; omega)
 ·intro i hi
  exact (q.inn i hi).kept hM2 (fun k hk e => (q.it k ⟨by rw [show s.inn = some i from hi]; rfl, hk⟩).2 e)
 ·exact q.tell.kept hM2 q.ts
 ·rintro k ⟨-, hk⟩ hk2
  have := (n1 k hk).1
  have := (hlt k (.inr (.inr (.inr hk2)))).2
  omega
 ·rintro k ⟨-, hk⟩
  have := (n1 k hk).1
  have h1 := (hlt g.tb (.inr (.inl rfl))).2
  exact ⟨by show k ≠ g.tb; omega, by show k ≠ g.sb; omega⟩
 ·exact q.it
 ·rintro k (e | e | ⟨-, e⟩ | e)
  ·exact .inl (.inl e)
  ·exact .inl (.inr (.inl e))
  ·exact .inr ⟨(n1 k e).1, Nat.lt_of_lt_of_le (n1 k e).2 hs1⟩
  ·exact .inl (.inr (.inr (.inr e)))
theorem SBuf.putIn {B : Nat} {w w1 : World} {g : SM} {s : St} {ib mb : Nat} {o : IB} (q : SBuf B w g s) (hM : Mod (fun _ => False) w w1) (hO : IBuf B w1 ib mb o) (hap : ∀ k, IS ib mb k → ¬ SS g s k) :
  SBuf B (w1.setCell ⟨g.sb, 1, none⟩ (.pointer (some ⟨ib, 0, none⟩))) { g with ib := ib, mb := mb } { s with inn := some o } ∧ Mod (fun k => k = g.sb) w (w1.setCell ⟨g.sb, 1, none⟩ (.pointer (some ⟨ib, 0, none⟩))) := by
 have hM2 : Mod (fun k => k = g.sb) w (w1.setCell ⟨g.sb, 1, none⟩ (.pointer (some ⟨ib, 0, none⟩))) := (hM.mono (T := fun k => k = g.sb) (fun _ _ h => h.elim)).setCell (p := ⟨g.sb, 1, none⟩) (fun _ => rfl) _
 have hM1 : Mod (fun k => k = g.sb) w1 (w1.setCell ⟨g.sb, 1, none⟩ (.pointer (some ⟨ib, 0, none⟩))) := (Mod.refl (fun k => k = g.sb) _).setCell (p := ⟨g.sb, 1, none⟩) (fun _ => rfl) _
 refine ⟨⟨q.at0, q.att, ?_, ?_, ?_, ?_, ?_, ?_, ?_, q.ts, q.num⟩, hM2⟩
 ·exact (hM.blk q.blk (fun h => h)).set 1 _
 ·intro o2 h2
  exact (q.out o2 h2).kept hM2 (fun k hk e => (q.ot k ⟨by rw [show s.out = some o2 from h2]; rfl, hk⟩).2 e)
 ·intro i hi
  cases hi
  exact hO.kept hM1 (fun k hk e => hap k hk (.inl e))
 ·exact q.tell.kept hM2 q.ts
 ·rintro k hk ⟨-, hk2⟩
  exact hap k hk2 (.inr (.inr (.inl hk)))
 ·exact q.ot
 ·rintro k ⟨-, hk⟩
  exact ⟨fun e => hap k hk (.inr (.inl e)), fun e => hap k hk (.inl e)⟩
theorem SBuf.putInS {B : Nat} {w w1 : World} {g : SM} {s : St} {ib mb : Nat} {o : IB} (q : SBuf B w g s) (hB : B ≤ w.heap.size) (hM : Mod (fun _ => False) w w1) (hO : IBuf w.heap.size w1 ib mb o) :
  SC B w (w1.setCell ⟨g.sb, 1, none⟩ (.pointer (some ⟨ib, 0, none⟩))) g { g with ib := ib, mb := mb } s { s with inn := some o } := by
 have hlt := q.lt
 obtain ⟨h1, h2⟩ := q.putIn hM (hO.base hB) (fun k hk hs => by have := (hO.lt k hk).1; have := (hlt k hs).2; omega)
 refine ⟨h1, rfl, ?_, h2.mono (fun k _ e => .inl e)⟩
 have hs1 : w1.heap.size ≤ (w1.setCell ⟨g.sb, 1, none⟩ (.pointer (some ⟨ib, 0, none⟩))).heap.size := by simp [World.setCell]
 rintro k (e | e | e | ⟨-, e⟩)
 ·exact .inl (.inl e)
 ·exact .inl (.inr (.inl e))
 ·exact .inl (.inr (.inr (.inl e)))
 ·exact .inr ⟨(hO.lt k e).1, Nat.lt_of_lt_of_le (hO.lt k e).2 hs1⟩
theorem TBuf.add {B : Nat} {w w1 w2 : World} {tb mb : Nat} {G : Int → SM} {T : Tb} (q : TBuf B w tb mb G T) {z : Int} (hz : z ∉ T.dom) (hid : 0 ≤ z ∧ z < 4611686018427387912) {g : SM} {s : St} (hM : Mod (fun _ => False) w w1) (hS : SBuf B w1 g s) (hf : ∀ k, SS g s k → w.heap.size ≤ k)
  (hI : IMap 26 .u64 w2 mb (putD z T.dom) (putF z (.pointer (some ⟨g.sb, 0, none⟩)) (fun z => .pointer (some ⟨(G z).sb, 0, none⟩)))) (hM2 : Mod (fun k => k = mb) w1 w2) :
  TT B w w2 tb mb G (updG G z g) T { T with dom := putD z T.dom, m := updM T.m z s } := by
 have hlt := q.lt
 have htb := (hlt tb (.inl rfl)).2
 have hmb := (hlt mb (.inr (.inl rfl))).2
 have q1 := q.still hM
 have hlt1 := hS.lt
 have eg : ∀ y, y ∈ T.dom → updG G z g y = G y := fun y hy => updG_other (fun e => hz (e ▸ hy))
 have em : ∀ y, y ∈ T.dom → updM T.m z s y = T.m y := fun y hy => updM_other (fun e => hz (e ▸ hy))
 have old : ∀ y, y ∈ T.dom → ∀ k, SS (G y) (T.m y) k → k < w.heap.size := fun y hy k hk => (hlt k (.inr (.inr ⟨y, hy, hk⟩))).2
 refine ⟨⟨q.at0, q.atm, hM2.blk q1.blk (fun e => q.mt e.symm), ?_, ?_, ?_, ?_, q.mt, q.tok, ?_, q.num⟩, ?_, ((hM.mono (T := fun k => k = mb) (fun _ _ h => h.elim)).trans hM2).mono (fun k _ e => .inr (.inl e))⟩
 ·have e : (fun y => Value.pointer (some ⟨(updG G z g y).sb, 0, none⟩)) = putF z (.pointer (some ⟨g.sb, 0, none⟩)) (fun z => .pointer (some ⟨(G z).sb, 0, none⟩)) := by
   funext y
   unfold putF updG
   split <;> rfl
  rw [e]
  exact hI
 ·intro y hy
  rcases mem_putD.1 hy with rfl | hyo
  ·rw [updG_same]
   show SBuf B w2 g (updM T.m y s y)
   rw [updM_same]
   exact hS.kept hM2 (fun k hk e => by have := hf k hk; omega)
  ·rw [eg y hyo]
   show SBuf B w2 (G y) (updM T.m z s y)
   rw [em y hyo]
   exact (q1.strs y hyo).kept hM2 (fun k hk e => (q.tops y hyo k hk).2 e)
 ·intro y hy y' hy' hne k hk hk'
  have hk1 : SS (updG G z g y) (updM T.m z s y) k := hk
  have hk2 : SS (updG G z g y') (updM T.m z s y') k := hk'
  rcases mem_putD.1 hy with rfl | hyo
  ·rcases mem_putD.1 hy' with rfl | hyo'
   ·exact hne rfl
   ·rw [updG_same, updM_same] at hk1
    rw [eg y' hyo', em y' hyo'] at hk2
    have := hf k hk1
    have := old y' hyo' k hk2
    omega
  ·rcases mem_putD.1 hy' with rfl | hyo'
   ·rw [updG_same, updM_same] at hk2
    rw [eg y hyo, em y hyo] at hk1
    have := hf k hk2
    have := old y hyo k hk1
    omega
   ·rw [eg y hyo, em y hyo] at hk1
    rw [eg y' hyo', em y' hyo'] at hk2
    exact q.apart y hyo y' hyo' hne k hk1 hk2
 ·intro y hy k hk
  have hk1 : SS (updG G z g y) (updM T.m z s y) k := hk
  rcases mem_putD.1 hy with rfl | hyo
  ·rw [updG_same, updM_same] at hk1
   have := hf k hk1
   exact ⟨by omega, by omega⟩
  ·rw [eg y hyo, em y hyo] at hk1
   exact q.tops y hyo k hk1
 ·intro y hy
  rcases mem_putD.1 hy with rfl | hyo
  ·exact hid
  ·exact q.ids y hyo
 ·rintro k (h | h | ⟨y, hy, hk⟩)
  ·exact .inl (.inl h)
  ·exact .inl (.inr (.inl h))
  ·have hk1 : SS (updG G z g y) (updM T.m z s y) k := hk
   rcases mem_putD.1 hy with rfl | hyo
   ·rw [updG_same, updM_same] at hk1
    exact .inr ⟨hf k hk1, Nat.lt_of_lt_of_le (hlt1 k hk1).2 hM2.size⟩
   ·rw [eg y hyo, em y hyo] at hk1
    exact .inl (.inr (.inr ⟨y, hyo, hk1⟩))
def hasOut (T : Tb) (id : Nat) : Bool := mineB T.client id || !oneWay id
def hasIn (T : Tb) (id : Nat) : Bool := !mineB T.client id || !oneWay id
def st0 (mx : Nat) : St := ⟨none, none, mx, 0, false, false, 0, 0, 0, false, false, false, false, false, false, 0⟩
def newS (T : Tb) (id : Nat) : St := { st0 T.stream with out := if hasOut T id then some (newO 0) else none, inn := if hasIn T id then some (newI T.own.s) else none }
def mkT (T : Tb) (id : Nat) : Tb := { T with dom := putD (id : Int) T.dom, m := updM T.m id (newS T id) }
theorem SBuf.fresh (B : Nat) (w : World) (hB : B ≤ w.heap.size) (mx : Nat) (hx : nat64 mx) : SBuf B ((w.alloc (.map #[] 0)).alloc (.cells (stC ⟨w.heap.size + 1, 0, .slice none 0 0, .slice none 0 0, 0, 0, w.heap.size⟩ (st0 mx)) 81)) ⟨w.heap.size + 1, 0, .slice none 0 0, .slice none 0 0, 0, 0, w.heap.size⟩ (st0 mx) := by
 have hb := Blk.new (w.alloc (.map #[] 0)) (stC ⟨w.heap.size + 1, 0, .slice none 0 0, .slice none 0 0, 0, 0, w.heap.size⟩ (st0 mx)) 81
 rw [World.size_alloc] at hb
 have hi := IMap.made 3 .i64 w (fun _ => .bool false)
 have z0 : nat64 0 := by unfold nat64; omega
 have no : ∀ g k, ¬ SO g (st0 mx) k := fun g k h => by have := h.1; cases this
 have ni : ∀ g k, ¬ SI g (st0 mx) k := fun g k h => by have := h.1; cases this
 refine ⟨by show B ≤ w.heap.size + 1; omega, hB, hb, fun o h => (by cases h), fun o h => (by cases h), ⟨[], fun _ => false, hi.kept (S := fun _ => False) ((Mod.refl _ _).alloc _) (fun h => h), fun z hz => (by cases hz), fun z => ?_⟩, fun k h => (no _ k h).elim, fun k h => (no _ k h).elim, fun k h => (ni _ k h).elim, by show w.heap.size ≠ w.heap.size + 1; omega, hx, z0, z0, z0, z0, z0⟩
 unfold tellF st0
 simp
end Go.Proofs.YtolgeghdkoodnaaGreatDoor
