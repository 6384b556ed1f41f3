/- The laws' example, walked. -/
import Derived.Test.YteegonadodmeeaaDoorGcC
import Derived.Lib.SlBytesConst
namespace Go.Proofs.YteegonadodmeeaaDoor
open Go.RowKit

def aF : Fr := ⟨2, 0, 0, 5, 0, false, [], [(8, 10), (2, 5)], zeros16⟩
def sF : Fr := ⟨8, 4, 9, 0, 0, true, [97, 98], [], zeros16⟩
theorem put_aF : fputL aF = [2, 10, 5, 1, 2, 1, 3] := by kernel_rfl
theorem put_sF : fputL sF = [15, 4, 9, 2, 97, 98] := by kernel_rfl
theorem parse_as : parse66 [2, 10, 5, 1, 2, 1, 3, 15, 4, 9, 2, 97, 98] = ([aF, sF], 0) := by kernel_rfl
theorem parse_31 : parse66 [31] = ([], 3) := by kernel_rfl
theorem right_aF : rightF aF = true := by kernel_rfl
theorem right_zero : rightF Fr.zero = false := by kernel_rfl
theorem rng_aF : RngOk aF := by unfold RngOk; decide
theorem rng_sF : RngOk sF := by unfold RngOk; decide
def pF : Fr := ⟨1, 0, 0, 0, 0, false, [], [], zeros16⟩
theorem rng_p : RngOk pF := by unfold RngOk; decide
theorem rng_z : RngOk Fr.zero := by unfold RngOk; decide
theorem ok_a : okKey aF.k := okKey_small (by decide) (by decide)
theorem ok_s : okKey sF.k := okKey_small (by decide) (by decide)
theorem ok_p : okKey pF.k := okKey_small (by decide) (by decide)
theorem ok_z : okKey Fr.zero.k := okKey_small (by decide) (by decide)
theorem put_ping : fputL pF = [1] := by kernel_rfl
theorem same_aF : sameF aF aF = true := by kernel_rfl
theorem same_sF : sameF sF sF = true := by kernel_rfl
theorem elic_aF : elicB aF = false := by kernel_rfl
theorem elic_sF : elicB sF = true := by kernel_rfl
theorem frv_p (w : World) : FrV w pF (.slice none 0 0) (.slice none 0 0) := ⟨Sl.nil _ _, Sl.nil _ _, rfl, by decide, by decide⟩
theorem frv_z (w : World) : FrV w Fr.zero (.slice none 0 0) (.slice none 0 0) := ⟨Sl.nil _ _, Sl.nil _ _, rfl, by decide, by decide⟩
theorem built_p : Tryd.prog.built 27 [(0, .int .i64 1)] = some (frC pF (.slice none 0 0) (.slice none 0 0)) := by kernel_rfl
theorem built_z : Tryd.prog.built 27 [] = some (frC Fr.zero (.slice none 0 0) (.slice none 0 0)) := by kernel_rfl
theorem exec_build {P : Program} {w : World} {a : Act} {op : Oper} {t : TypeId} {pl : List (Nat × Operand)} (ho : op.op = .build t pl.toArray) {vals : List (Nat × Value)} (hv : pl.map (fun x => (x.1, a.eval x.2)) = vals) {cells : Array Value} (hb : P.built t vals = some cells) : (execOp a.eval op).run P w = .ok (.value (.agg cells)) w := by
  subst hv
  have e : (pl.toArray.map fun (i, x) => (i, a.eval x)).toList = pl.map (fun x => (x.1, a.eval x.2)) := by simp
  have hr := run_build w t ((pl.toArray.map fun (i, x) => (i, a.eval x))) cells (by rw [e]; exact hb)
  unfold execOp
  simp only [ho, Sem.run_bind, hr, Result.andThen_ok, Sem.run_pure]
/-- The example's frames, laid. -/
structure AlS (w0 w : World) (pa ps : Nat) (va vs : Value) : Prop where
  a : Blk w pa (frC aF (.slice none 0 0) va) 27
  av : FrV w aF (.slice none 0 0) va
  s : Blk w ps (frC sF vs (.slice none 0 0)) 27
  sv : FrV w sF vs (.slice none 0 0)
  m : Mod (fun _ => False) w0 w
theorem AlS.kept {w0 w w' : World} {pa ps : Nat} {va vs : Value} (h : AlS w0 w pa ps va vs) (hM : Mod (fun _ => False) w w') : AlS w0 w' pa ps va vs :=
  ⟨hM.blk h.a (fun h => h), h.av.kept hM, hM.blk h.s (fun h => h), h.sv.kept hM, h.m.trans hM⟩
theorem AlS.loadA {w0 w : World} {pa ps : Nat} {va vs : Value} (h : AlS w0 w pa ps va vs) : (Instr.loadAt 27 (.pointer (some ⟨pa, 0, none⟩))).run Tryd.prog w = .ok (.agg (frC aF (.slice none 0 0) va)) w := blk_loadAt ⟨h.a, rfl⟩
theorem AlS.loadS {w0 w : World} {pa ps : Nat} {va vs : Value} (h : AlS w0 w pa ps va vs) : (Instr.loadAt 27 (.pointer (some ⟨ps, 0, none⟩))).run Tryd.prog w = .ok (.agg (frC sF vs (.slice none 0 0))) w := blk_loadAt ⟨h.s, rfl⟩
theorem rg_two (w : World) : RgV (w.alloc (.cells #[.int .u64 8, .int .u64 10, .int .u64 2, .int .u64 5] 44)) (.slice (some ⟨w.heap.size, 0, none⟩) 2 2) [(8, 10), (2, 5)] := by
  have hb := Blk.new w #[.int .u64 8, .int .u64 10, .int .u64 2, .int .u64 5] 44
  refine ⟨by decide, some ⟨w.heap.size, 0, none⟩, 2, rfl, Nat.le_refl _, by decide, fun e => by simp at e, fun j u hu => ⟨w.heap.size, 0, rfl, ?_⟩⟩
  rw [Nat.zero_add]
  simp only [List.flatMap_cons, List.flatMap_nil, List.append_nil, rgC, List.cons_append, List.nil_append] at hu
  match j, hu with
  | 0, hu => simp at hu; subst hu; exact hb.cellAt 0 rfl
  | 1, hu => simp at hu; subst hu; exact hb.cellAt 1 rfl
  | 2, hu => simp at hu; subst hu; exact hb.cellAt 2 rfl
  | 3, hu => simp at hu; subst hu; exact hb.cellAt 3 rfl
  | (_ + 4), hu => simp at hu
theorem built_a (a : Option Addr) (n c : Nat) : Tryd.prog.built 27 [(0, .int .i64 2), (3, .int .u64 5), (7, .slice a n c)] = some (frC aF (.slice none 0 0) (.slice a n c)) := by kernel_rfl
theorem built_s (a : Option Addr) (n c : Nat) : Tryd.prog.built 27 [(0, .int .i64 8), (1, .int .u64 4), (2, .int .u64 9), (5, .bool true), (6, .slice a n c)] = some (frC sF (.slice a n c) (.slice none 0 0)) := by kernel_rfl
theorem byts_lit_m (w : World) (l : List UInt8) (cs : Array Value) (n : Nat) (m : Nat × Nat) (hc : cs = (l.map bv).toArray) (hn : l.length = n) (hm : n ≤ maxLen) :
    Byts (w.alloc (.cells cs 5 m)) (.slice (some ⟨w.heap.size, 0, none⟩) n n) l := by
  subst hc; subst hn
  refine ⟨by simp, _, l.length, rfl, Nat.le_refl _, hm, fun h => by simp at h, fun j u hu => ⟨_, 0, rfl, ?_⟩⟩
  rw [Nat.zero_add]
  exact (cell_of_row _ w.heap.size j _ 5 m (heap_alloc_new w _)).trans (by simpa using hu)
theorem sF_one (a : Option Addr) (n c : Nat) : ∀ v ∈ (frC sF (.slice a n c) (.slice none 0 0)).toList, v.oneCell' = true := by
  intro v hv
  simp only [frC, frL, sF, List.mem_append, List.mem_cons, List.not_mem_nil, or_false] at hv
  rcases hv with (rfl | rfl | rfl | rfl | rfl | rfl | rfl | rfl) | hv <;> try rfl
  exact bv_one _ _ hv
theorem AlS.made {w0 w w1 w2 : World} (h : FrV w aF (.slice none 0 0) (.slice (some ⟨w0.heap.size, 0, none⟩) 2 2)) (hM0 : Mod (fun _ => False) w0 w)
    (hB1 : Blk w1 (w0.heap.size + 1) (frC aF (.slice none 0 0) (.slice (some ⟨w0.heap.size, 0, none⟩) 2 2)) 27) (hM1 : Mod (fun k => k = w0.heap.size + 1) w w1)
    (hB2 : Blk w2 (w1.heap.size + 1) (frC sF (.slice (some ⟨w1.heap.size, 0, none⟩) 2 2) (.slice none 0 0)) 27)
    (hM2 : Mod (fun k => k = w1.heap.size + 1) ((w1.alloc (.cells #[.int .u8 97, .int .u8 98] 5 (2, 3))).alloc (.cells frZ 27)) w2) :
    AlS w0 w2 (w0.heap.size + 1) (w1.heap.size + 1) (.slice (some ⟨w0.heap.size, 0, none⟩) 2 2) (.slice (some ⟨w1.heap.size, 0, none⟩) 2 2) := by
  have k1 : Mod (fun _ => False) w1 ((w1.alloc (.cells #[.int .u8 97, .int .u8 98] 5 (2, 3))).alloc (.cells frZ 27)) := ((Mod.refl _ _).alloc _).alloc _
  have k2 : Mod (fun _ => False) w1 w2 := k1.trans' hM2 (fun i hi e => by omega)
  have ba := hM1.size
  have l1 : Byts ((w1.alloc (.cells #[.int .u8 97, .int .u8 98] 5 (2, 3))).alloc (.cells frZ 27)) (.slice (some ⟨w1.heap.size, 0, none⟩) 2 2) [97, 98] := byts_kept (byts_lit_m w1 [97, 98] _ 2 (2, 3) rfl rfl (by decide)) ((Mod.refl _ _).alloc _)
  have l2 : Byts w2 (.slice (some ⟨w1.heap.size, 0, none⟩) 2 2) [97, 98] := hM2.sl l1 (fun _ g hg e => by simp [blockOf] at hg; omega)
  have r1 : RgV w1 (.slice (some ⟨w0.heap.size, 0, none⟩) 2 2) [(8, 10), (2, 5)] := hM1.sl h.r (fun _ g hg e => by simp [blockOf] at hg; omega)
  exact ⟨k2.blk hB1 (fun h => h), ⟨Sl.nil _ _, r1.kept k2, rfl, by decide, by decide⟩, hB2, ⟨l2, Sl.nil _ _, rfl, by decide, by decide⟩, (hM0.trans' hM1 (fun i hi e => by omega)).trans k2⟩
set_option maxHeartbeats 8000000 in
set_option maxRecDepth 10000 in
theorem alive_any (w : World) (hT : Tabs w) : Calls Tryd.prog 10 #[] w fun e w' => e = .returned (.bool true) ∧ Mod (fun _ => False) w w' := by
  have HT := Lib.hid hT
  clear hT
  have kc := fun (w : World) (C : Array Value) (n c : Nat) => Lib.run_convert_bytes_const (P := Tryd.prog) w 23 5 C n c Tryd.underlying23 Tryd.underlying5
  go_enter Tryd.func10, Tryd.ntmps10
  have HV0 : Hid (FrV ((w.alloc (.cells #[.int .u64 8, .int .u64 10, .int .u64 2, .int .u64 5] 44)).alloc (.cells frZ 27)) aF (.slice none 0 0) (.slice (some ⟨w.heap.size, 0, none⟩) 2 2)) := ⟨Sl.nil _ _, (rg_two w).kept ((Mod.refl _ _).alloc _), rfl, by decide, by decide⟩
  go_wp2_with (first
    | ((with_reducible refine wpList_build_c ?_ 27 [(0, .const (.int .i64 2)), (3, .const (.int .u64 5)), (7, .tmp 9)] ?_ [(0, .int .i64 2), (3, .int .u64 5), (7, .slice (some ⟨w.heap.size, 0, none⟩) 2 2)] ?_ _ (built_a _ _ _) ?_); (· exact rfl); (· exact rfl); (· exact rfl))
    | ((with_reducible refine wpList_store_blk ?_ 27 (.tmp 1) (.tmp 10) ?_ (w.heap.size + 1) ?_ frZ (frC aF (.slice none 0 0) (.slice (some ⟨w.heap.size, 0, none⟩) 2 2)) ?_ 27 (new2 _ _ _ _) (sizeFr _ _ _ rfl) rfl (frC_one HV0.out) ?_); (· exact rfl); (· exact rfl); (· exact rfl); (· exact rfl); intro w1 hB1 hM1; have HB1 := Lib.hid hB1; have HM1 := Lib.hid hM1; clear hB1 hM1)
    | ((with_reducible refine wpList_build_c ?_ 27 [(0, .const (.int .i64 8)), (1, .const (.int .u64 4)), (2, .const (.int .u64 9)), (5, .const (.bool true)), (6, .tmp 12)] ?_ [(0, .int .i64 8), (1, .int .u64 4), (2, .int .u64 9), (5, .bool true), (6, .slice (some ⟨w1.heap.size, 0, none⟩) 2 2)] ?_ _ (built_s _ _ _) ?_); (· exact rfl); (· exact rfl); (· exact rfl))
    | ((with_reducible refine wpList_store_blk ?_ 27 (.tmp 2) (.tmp 13) ?_ (w1.heap.size + 1) ?_ frZ (frC sF (.slice (some ⟨w1.heap.size, 0, none⟩) 2 2) (.slice none 0 0)) ?_ 27 (new2 _ _ _ _) (sizeFr _ _ _ rfl) rfl (sF_one _ _ _) ?_); (· exact rfl); (· exact rfl); (· exact rfl); (· exact rfl); intro w2 hB2 hM2; have HA := Lib.hid (AlS.made HV0.out (((Mod.refl _ _).alloc _).alloc _) HB1.out HM1.out hB2 hM2); generalize w1.heap.size = g1 at *; generalize hg0 : w.heap.size = g0 at *; clear hB2 hM2 HB1 HM1 HV0 hg0)
    | fail)
  generalize hCA : frC aF (.slice none 0 0) (.slice (some ⟨g0, 0, none⟩) 2 2) = CA at *
  generalize hCS : frC sF (.slice (some ⟨g1, 0, none⟩) 2 2) (.slice none 0 0) = CS at *
  have HCA := Lib.hid hCA
  have HCS := Lib.hid hCS
  generalize (.slice (some ⟨g0, 0, none⟩) 2 2 : Value) = va at *
  generalize (.slice (some ⟨g1, 0, none⟩) 2 2 : Value) = vs at *
  generalize g0 + 1 = pa at *
  generalize g1 + 1 = ps at *
  clear hCA hCS g0 g1 kc
  go_frame
  refine wp_region_held_drew (S := fun X => Mod (fun _ => False) w2 X) (by kernel_rfl) (Mod.refl _ _).drew (fun hS => ?_)
  refine takeH (i := 0) (v := .agg CA) (some 15) rfl rfl (by kernel_rfl) (by kernel_rfl) (by kernel_rfl) (fun _ _ _ h => h) (Or.inl ⟨by rfl, fun X hX => ?_⟩) hS ?_
  · exact exec_load' rfl (p := .pointer (some ⟨pa, 0, none⟩)) (by rfl) (by rw [← HCA.out]; exact (HA.out.kept (hX)).loadA)
  (try go_frame)
  refine takeH (i := 2) (v := .agg CS) (some 17) rfl rfl (by kernel_rfl) (by kernel_rfl) (by kernel_rfl) (fun _ _ _ h => h) (Or.inl ⟨by rfl, fun X hX => ?_⟩) hS ?_
  · exact exec_load' rfl (p := .pointer (some ⟨ps, 0, none⟩)) (by rfl) (by rw [← HCS.out]; exact (HA.out.kept (hX)).loadS)
  (try go_frame)
  refine wpAnyH_ready (rs := [1]) (by kernel_rfl) (by simp) ?_
  refine AllReadyH.cons rfl (fun K hK => ?_) AllReadyH.nil
  go_simp
  refine (fput_c HCA.out.symm ((HA.out.kept hS).m.tabs HT.out (fun h => h)) (HA.out.kept hS).av (by decide) ok_a rng_aF put_aF rfl).mono ?_
  rintro e X1 ⟨a1, c1, rfl, ho1, hk1⟩
  have hb1 := hS.size
  refine hK.out _ _ (hS.trans hk1) (fun hS => ?_)
  clear hK K
  refine wpAnyH_ready (rs := [3]) (by kernel_rfl) (by simp) ?_
  refine AllReadyH.cons rfl (fun K hK => ?_) AllReadyH.nil
  go_simp
  refine (fput_c HCS.out.symm ((HA.out.kept hS).m.tabs HT.out (fun h => h)) (HA.out.kept hS).sv (by decide) ok_s rng_sF put_sF rfl).mono ?_
  rintro e X3 ⟨a3, c3, rfl, ho3, hk3⟩
  refine hK.out _ _ (hS.trans hk3) (fun hS => ?_)
  clear hK K
  refine wpAnyH_ready (rs := [4]) (by kernel_rfl) (by simp) ?_
  refine AllReadyH.cons rfl (fun K hK => ?_) AllReadyH.nil
  refine step_append_b rfl (.tmp 16) (.tmp 18) rfl (.slice a1 7 c1) [2, 10, 5, 1, 2, 1, 3] w2.heap.size 13 (by rfl) (OwnB.mono (ho1.keptF hk3) hb1) (.slice a3 6 c3) [15, 4, 9, 2, 97, 98] (by rfl) ho3.byts [2, 10, 5, 1, 2, 1, 3, 15, 4, 9, 2, 97, 98] rfl rfl (by decide) hS.size ?_
  intro ap4 cp4 X4 hA4
  (try go_frame)
  have hb4 := hA4.byts
  refine hK.out _ _ (hA4.modF hS (Nat.le_refl _)) (fun hS => ?_)
  clear hK K
  refine wpAnyH_ready (rs := [5]) (by kernel_rfl) (by simp) ?_
  refine AllReadyH.cons rfl (fun K hK => ?_) AllReadyH.nil
  go_simp
  refine (parse_c 2 hb4 (by decide) parse_as rfl).mono ?_
  rintro e X5 ⟨a5, c5, rfl, ho5, hk5⟩
  refine hK.out _ _ (hS.trans hk5) (fun hS => ?_)
  clear hK K
  refine takeH (i := 6) (v := .tuple #[.slice a5 2 c5, .int .i64 0]) (some 14) rfl rfl (by kernel_rfl) (by kernel_rfl) (by kernel_rfl) (fun _ _ _ h => h) (Or.inl ⟨by rfl, fun X hX => ?_⟩) hS ?_
  · go_simp
  (try go_frame)
  refine takeH (i := 7) (v := .slice a5 2 c5) (some 21) rfl rfl (by kernel_rfl) (by kernel_rfl) (by kernel_rfl) (fun _ _ _ h => h) (Or.inl ⟨by rfl, fun X hX => ?_⟩) hS ?_
  · go_simp
  (try go_frame)
  refine takeH (i := 8) (v := .int .i64 0) (some 22) rfl rfl (by kernel_rfl) (by kernel_rfl) (by kernel_rfl) (fun _ _ _ h => h) (Or.inl ⟨by rfl, fun X hX => ?_⟩) hS ?_
  · go_simp
  (try go_frame)
  refine takeH (i := 9) (v := .slice a5 2 c5) (some 3) rfl rfl (by kernel_rfl) (by kernel_rfl) (by kernel_rfl) (fun _ _ _ h => h) (Or.inl ⟨by rfl, fun X hX => ?_⟩) hS ?_
  · go_simp
  (try go_frame)
  refine takeH (i := 10) (v := .int .i64 0) (some 4) rfl rfl (by kernel_rfl) (by kernel_rfl) (by kernel_rfl) (fun _ _ _ h => h) (Or.inl ⟨by rfl, fun X hX => ?_⟩) hS ?_
  · go_simp
  (try go_frame)
  refine wpAnyH_done (by kernel_rfl) ?_ _
  obtain ⟨h5, c5', vd0, vr0, hv5, hf0, hr0⟩ := ho5.at (i := 0) rfl
  obtain ⟨g5, c5'', vd1, vr1, hv5', hf1, hr1⟩ := ho5.at (i := 1) rfl
  have e5 := hv5'.symm.trans hv5
  simp only [Value.slice.injEq, Option.some.injEq, Addr.mk.injEq, and_true] at e5
  obtain ⟨rfl, _, _⟩ := e5
  clear hv5'
  simp only [Value.slice.injEq] at hv5
  obtain ⟨rfl, _, _⟩ := hv5
  have HA5 := Lib.hid (HA.out.kept hS)
  have HF0 := Lib.hid (hf0.frv (by decide) (by decide))
  have HF1 := Lib.hid (hf1.frv (by decide) (by decide))
  have HR0 := Lib.hid hr0
  have HR1 := Lib.hid hr1
  clear hf0 hf1 hr0 hr1 ho5 hk5 hb4 hA4 ho3 hk3 ho1 hk1 hb1 hS HA
  generalize hC0 : frC aF vd0 vr0 = C0 at *
  generalize hC1 : frC sF vd1 vr1 = C1 at *
  have HC0 := Lib.hid hC0
  have HC1 := Lib.hid hC1
  clear hC0 hC1
  go_wp2_with fail
  refine (parse_c 0 (byts_lit X5 [31] _ 1 rfl rfl (by decide)) (by decide) parse_31 rfl).mono ?_
  rintro e X6 ⟨a6, c6, rfl, ho6, hk6⟩
  have hm6 : Mod (fun _ => False) X5 X6 := ((Mod.refl _ _).alloc _).trans hk6
  have HA6 := Lib.hid (HA5.out.kept hm6)
  have HG0 := Lib.hid (HF0.out.kept hm6)
  have HG1 := Lib.hid (HF1.out.kept hm6)
  have HQ0 := Lib.hid (range_kept HR0.out hm6 (fun h => h))
  have HQ1 := Lib.hid (range_kept HR1.out hm6 (fun h => h))
  clear hm6 hk6 ho6 HA5 HF0 HF1 HR0 HR1
  go_wp2_with fail
  (try go_frame)
  obtain ⟨CP, hCP⟩ : ∃ x, x = frC pF (.slice none 0 0) (.slice none 0 0) := ⟨_, rfl⟩
  obtain ⟨CZ, hCZ⟩ : ∃ x, x = frC Fr.zero (.slice none 0 0) (.slice none 0 0) := ⟨_, rfl⟩
  have HCP := Lib.hid hCP
  have HCZ := Lib.hid hCZ
  clear hCP hCZ
  generalize hX6 : X6 = W6 at *
  clear hX6
  refine wp_region_held_drew (S := fun X => Mod (fun _ => False) W6 X) (by kernel_rfl) (Mod.refl _ _).drew (fun hS => ?_)
  refine takeH (i := 0) (v := .agg CP) (some 28) rfl rfl (by kernel_rfl) (by kernel_rfl) (by kernel_rfl) (fun _ _ _ h => h) (Or.inl ⟨by rfl, fun X hX => ?_⟩) hS ?_
  · exact exec_build (pl := [(0, .const (.int .i64 1))]) rfl (vals := [(0, .int .i64 1)]) (by rfl) (by rw [HCP.out]; exact built_p)
  (try go_frame)
  refine wpAnyH_ready (rs := [1, 2]) (by kernel_rfl) (by simp) ?_
  refine AllReadyH.cons rfl (fun K hK => ?_) (AllReadyH.cons rfl (fun K hK => ?_) AllReadyH.nil)
  · skip
    go_simp
    refine (fput_c HCP.out ((HA6.out.kept hS).m.tabs HT.out (fun h => h)) (frv_p _) (by decide) ok_p rng_p put_ping rfl).mono ?_
    rintro e Y1 ⟨a7, c7, rfl, ho7, hk7⟩
    refine hK.out _ _ (hS.trans hk7) (fun hS => ?_)
    clear hK K
    refine wpAnyH_ready (rs := [2]) (by kernel_rfl) (by simp) ?_
    refine AllReadyH.cons rfl (fun K hK => ?_) AllReadyH.nil
    go_simp
    refine hK.out _ _ (hS.alloc _) (fun hS => ?_)
    clear hK K
    have HY1 := byts_kept ho7.byts ((Mod.refl (fun _ => False) Y1).alloc (.cells #[.int .u8 1] 5))
    have HY2 := byts_lit Y1 [1] #[.int .u8 1] 1 rfl rfl (by decide)
    generalize Y1.heap.size = g7 at *
    generalize (Y1.alloc (.cells #[.int .u8 1] 5)) = Y2 at *
    clear hk7 ho7
    refine wpAnyH_ready (rs := [3]) (by kernel_rfl) (by simp) ?_
    refine AllReadyH.cons rfl (fun K hK => ?_) AllReadyH.nil
    go_simp
    refine (same_c HY1 HY2).mono ?_
    rintro e X7 ⟨rfl, hkX7⟩
    rw [show decide (([1] : List UInt8) = [1]) = true from by decide]
    refine hK.out _ _ (hS.trans hkX7) (fun hS => ?_)
    clear hK K
    refine takeH (i := 4) (v := .bool true) (some 32) rfl rfl (by kernel_rfl) (by kernel_rfl) (by kernel_rfl) (fun _ _ _ h => h) (Or.inl ⟨by rfl, fun X hX => ?_⟩) hS ?_
    · go_simp
    (try go_frame)
    refine takeH (i := 5) (v := .int .i64 0) (some 33) rfl rfl (by kernel_rfl) (by kernel_rfl) (by kernel_rfl) (fun _ _ _ h => h) (Or.inl ⟨by rfl, fun X hX => ?_⟩) hS ?_
    · go_simp
    (try go_frame)
    refine takeH (i := 6) (v := .bool true) (some 34) rfl rfl (by kernel_rfl) (by kernel_rfl) (by kernel_rfl) (fun _ _ _ h => h) (Or.inl ⟨by rfl, fun X hX => ?_⟩) hS ?_
    · go_simp
    (try go_frame)
    refine takeH (i := 7) (v := .bool true) (some 35) rfl rfl (by kernel_rfl) (by kernel_rfl) (by kernel_rfl) (fun _ _ _ h => h) (Or.inl ⟨by rfl, fun X hX => ?_⟩) hS ?_
    · go_simp
    (try go_frame)
    refine takeH (i := 8) (v := .bool true) (some 36) rfl rfl (by kernel_rfl) (by kernel_rfl) (by kernel_rfl) (fun _ _ _ h => h) (Or.inl ⟨by rfl, fun X hX => ?_⟩) hS ?_
    · go_simp
    (try go_frame)
    refine takeH (i := 9) (v := .int .i64 3) (some 37) rfl rfl (by kernel_rfl) (by kernel_rfl) (by kernel_rfl) (fun _ _ _ h => h) (Or.inl ⟨by rfl, fun X hX => ?_⟩) hS ?_
    · go_simp
    (try go_frame)
    refine takeH (i := 10) (v := .bool true) (some 38) rfl rfl (by kernel_rfl) (by kernel_rfl) (by kernel_rfl) (fun _ _ _ h => h) (Or.inl ⟨by rfl, fun X hX => ?_⟩) hS ?_
    · go_simp
    (try go_frame)
    refine takeH (i := 11) (v := .bool true) (some 39) rfl rfl (by kernel_rfl) (by kernel_rfl) (by kernel_rfl) (fun _ _ _ h => h) (Or.inl ⟨by rfl, fun X hX => ?_⟩) hS ?_
    · go_simp
    (try go_frame)
    refine takeH (i := 12) (v := .bool true) (some 40) rfl rfl (by kernel_rfl) (by kernel_rfl) (by kernel_rfl) (fun _ _ _ h => h) (Or.inl ⟨by rfl, fun X hX => ?_⟩) hS ?_
    · go_simp
    (try go_frame)
    refine takeH (i := 13) (v := .slice (some ⟨g5, 0, none⟩) 2 c5) (some 41) rfl rfl (by kernel_rfl) (by kernel_rfl) (by kernel_rfl) (fun _ _ _ h => h) (Or.inl ⟨by rfl, fun X hX => ?_⟩) hS ?_
    · go_simp
    (try go_frame)
    refine takeH (i := 14) (v := .int .i64 2) (some 42) rfl rfl (by kernel_rfl) (by kernel_rfl) (by kernel_rfl) (fun _ _ _ h => h) (Or.inl ⟨by rfl, fun X hX => ?_⟩) hS ?_
    · go_simp
    (try go_frame)
    refine takeH (i := 15) (v := .bool true) (some 43) rfl rfl (by kernel_rfl) (by kernel_rfl) (by kernel_rfl) (fun _ _ _ h => h) (Or.inl ⟨by rfl, fun X hX => ?_⟩) hS ?_
    · go_simp
    (try go_frame)
    refine takeH (i := 16) (v := .bool true) (some 44) rfl rfl (by kernel_rfl) (by kernel_rfl) (by kernel_rfl) (fun _ _ _ h => h) (Or.inl ⟨by rfl, fun X hX => ?_⟩) hS ?_
    · go_simp
    (try go_frame)
    refine takeH (i := 17) (v := .bool true) (some 45) rfl rfl (by kernel_rfl) (by kernel_rfl) (by kernel_rfl) (fun _ _ _ h => h) (Or.inl ⟨by rfl, fun X hX => ?_⟩) hS ?_
    · go_simp
    (try go_frame)
    refine takeH (i := 18) (v := .slice (some ⟨g5, 0, none⟩) 2 c5) (some 46) rfl rfl (by kernel_rfl) (by kernel_rfl) (by kernel_rfl) (fun _ _ _ h => h) (Or.inl ⟨by rfl, fun X hX => ?_⟩) hS ?_
    · go_simp
    (try go_frame)
    refine takeH (i := 19) (v := .pointer (some ⟨g5, 0, none⟩)) (some 47) rfl rfl (by kernel_rfl) (by kernel_rfl) (by kernel_rfl) (fun _ _ _ h => h) (Or.inl ⟨by rfl, fun X hX => ?_⟩) hS ?_
    · go_simp
    (try go_frame)
    refine takeH (i := 20) (v := .agg C0) (some 48) rfl rfl (by kernel_rfl) (by kernel_rfl) (by kernel_rfl) (fun _ _ _ h => h) (Or.inl ⟨by rfl, fun X hX => ?_⟩) hS ?_
    · exact exec_load' rfl (p := .pointer (some ⟨g5, 0, none⟩)) (by rfl) (by rw [← HC0.out]; exact OwnF.load (range_kept (by rw [HC0.out]; exact HQ0.out) hX (fun h => h)) rfl)
    (try go_frame)
    refine takeH (i := 21) (v := .agg CA) (some 49) rfl rfl (by kernel_rfl) (by kernel_rfl) (by kernel_rfl) (fun _ _ _ h => h) (Or.inl ⟨by rfl, fun X hX => ?_⟩) hS ?_
    · exact exec_load' rfl (p := .pointer (some ⟨pa, 0, none⟩)) (by rfl) (by rw [← HCA.out]; exact (HA6.out.kept hX).loadA)
    (try go_frame)
    refine wpAnyH_ready (rs := [22]) (by kernel_rfl) (by simp) ?_
    refine AllReadyH.cons rfl (fun K hK => ?_) AllReadyH.nil
    go_simp
    refine (fsame_c HC0.out.symm HCA.out.symm (HG0.out.kept hS) (HA6.out.kept hS).av (by decide) (by decide)).mono ?_
    rintro e X8 ⟨rfl, hkX8⟩
    rw [same_aF]
    refine hK.out _ _ (hS.trans hkX8) (fun hS => ?_)
    clear hK K
    refine takeH (i := 23) (v := .bool true) (some 51) rfl rfl (by kernel_rfl) (by kernel_rfl) (by kernel_rfl) (fun _ _ _ h => h) (Or.inl ⟨by rfl, fun X hX => ?_⟩) hS ?_
    · go_simp
    (try go_frame)
    refine takeH (i := 24) (v := .bool true) (some 52) rfl rfl (by kernel_rfl) (by kernel_rfl) (by kernel_rfl) (fun _ _ _ h => h) (Or.inl ⟨by rfl, fun X hX => ?_⟩) hS ?_
    · go_simp
    (try go_frame)
    refine takeH (i := 25) (v := .slice (some ⟨g5, 0, none⟩) 2 c5) (some 53) rfl rfl (by kernel_rfl) (by kernel_rfl) (by kernel_rfl) (fun _ _ _ h => h) (Or.inl ⟨by rfl, fun X hX => ?_⟩) hS ?_
    · go_simp
    (try go_frame)
    refine takeH (i := 26) (v := .pointer (some ⟨g5, 24, none⟩)) (some 54) rfl rfl (by kernel_rfl) (by kernel_rfl) (by kernel_rfl) (fun _ _ _ h => h) (Or.inl ⟨by rfl, fun X hX => ?_⟩) hS ?_
    · go_simp
    (try go_frame)
    refine takeH (i := 27) (v := .agg C1) (some 55) rfl rfl (by kernel_rfl) (by kernel_rfl) (by kernel_rfl) (fun _ _ _ h => h) (Or.inl ⟨by rfl, fun X hX => ?_⟩) hS ?_
    · exact exec_load' rfl (p := .pointer (some ⟨g5, 24, none⟩)) (by rfl) (by rw [← HC1.out]; exact OwnF.load (range_kept (by rw [HC1.out]; exact HQ1.out) hX (fun h => h)) rfl)
    (try go_frame)
    refine takeH (i := 28) (v := .agg CS) (some 56) rfl rfl (by kernel_rfl) (by kernel_rfl) (by kernel_rfl) (fun _ _ _ h => h) (Or.inl ⟨by rfl, fun X hX => ?_⟩) hS ?_
    · exact exec_load' rfl (p := .pointer (some ⟨ps, 0, none⟩)) (by rfl) (by rw [← HCS.out]; exact (HA6.out.kept hX).loadS)
    (try go_frame)
    refine wpAnyH_ready (rs := [29]) (by kernel_rfl) (by simp) ?_
    refine AllReadyH.cons rfl (fun K hK => ?_) AllReadyH.nil
    go_simp
    refine (fsame_c HC1.out.symm HCS.out.symm (HG1.out.kept hS) (HA6.out.kept hS).sv (by decide) (by decide)).mono ?_
    rintro e X9 ⟨rfl, hkX9⟩
    rw [same_sF]
    refine hK.out _ _ (hS.trans hkX9) (fun hS => ?_)
    clear hK K
    refine takeH (i := 30) (v := .bool true) (some 58) rfl rfl (by kernel_rfl) (by kernel_rfl) (by kernel_rfl) (fun _ _ _ h => h) (Or.inl ⟨by rfl, fun X hX => ?_⟩) hS ?_
    · go_simp
    (try go_frame)
    refine takeH (i := 31) (v := .bool true) (some 59) rfl rfl (by kernel_rfl) (by kernel_rfl) (by kernel_rfl) (fun _ _ _ h => h) (Or.inl ⟨by rfl, fun X hX => ?_⟩) hS ?_
    · go_simp
    (try go_frame)
    refine takeH (i := 32) (v := .agg CA) (some 60) rfl rfl (by kernel_rfl) (by kernel_rfl) (by kernel_rfl) (fun _ _ _ h => h) (Or.inl ⟨by rfl, fun X hX => ?_⟩) hS ?_
    · exact exec_load' rfl (p := .pointer (some ⟨pa, 0, none⟩)) (by rfl) (by rw [← HCA.out]; exact (HA6.out.kept hX).loadA)
    (try go_frame)
    refine wpAnyH_ready (rs := [33]) (by kernel_rfl) (by simp) ?_
    refine AllReadyH.cons rfl (fun K hK => ?_) AllReadyH.nil
    go_simp
    refine (right_c HCA.out.symm (HA6.out.kept hS).av (by decide) ok_a rng_aF).mono ?_
    rintro e Xa ⟨rfl, hkXa⟩
    rw [right_aF]
    refine hK.out _ _ (hS.trans hkXa) (fun hS => ?_)
    clear hK K
    refine takeH (i := 34) (v := .bool true) (some 62) rfl rfl (by kernel_rfl) (by kernel_rfl) (by kernel_rfl) (fun _ _ _ h => h) (Or.inl ⟨by rfl, fun X hX => ?_⟩) hS ?_
    · go_simp
    (try go_frame)
    refine takeH (i := 35) (v := .bool true) (some 63) rfl rfl (by kernel_rfl) (by kernel_rfl) (by kernel_rfl) (fun _ _ _ h => h) (Or.inl ⟨by rfl, fun X hX => ?_⟩) hS ?_
    · go_simp
    (try go_frame)
    refine takeH (i := 36) (v := .agg CZ) (some 64) rfl rfl (by kernel_rfl) (by kernel_rfl) (by kernel_rfl) (fun _ _ _ h => h) (Or.inl ⟨by rfl, fun X hX => ?_⟩) hS ?_
    · exact exec_build (pl := []) rfl (vals := []) (by rfl) (by rw [HCZ.out]; exact built_z)
    (try go_frame)
    refine wpAnyH_ready (rs := [37]) (by kernel_rfl) (by simp) ?_
    refine AllReadyH.cons rfl (fun K hK => ?_) AllReadyH.nil
    go_simp
    refine (right_c HCZ.out (frv_z _) (by decide) ok_z rng_z).mono ?_
    rintro e Xb ⟨rfl, hkXb⟩
    rw [right_zero]
    refine hK.out _ _ (hS.trans hkXb) (fun hS => ?_)
    clear hK K
    refine takeH (i := 38) (v := .bool true) (some 66) rfl rfl (by kernel_rfl) (by kernel_rfl) (by kernel_rfl) (fun _ _ _ h => h) (Or.inl ⟨by rfl, fun X hX => ?_⟩) hS ?_
    · go_simp
    (try go_frame)
    refine takeH (i := 39) (v := .bool true) (some 67) rfl rfl (by kernel_rfl) (by kernel_rfl) (by kernel_rfl) (fun _ _ _ h => h) (Or.inl ⟨by rfl, fun X hX => ?_⟩) hS ?_
    · go_simp
    (try go_frame)
    refine takeH (i := 40) (v := .bool true) (some 68) rfl rfl (by kernel_rfl) (by kernel_rfl) (by kernel_rfl) (fun _ _ _ h => h) (Or.inl ⟨by rfl, fun X hX => ?_⟩) hS ?_
    · go_simp
    (try go_frame)
    refine takeH (i := 41) (v := .agg CS) (some 69) rfl rfl (by kernel_rfl) (by kernel_rfl) (by kernel_rfl) (fun _ _ _ h => h) (Or.inl ⟨by rfl, fun X hX => ?_⟩) hS ?_
    · exact exec_load' rfl (p := .pointer (some ⟨ps, 0, none⟩)) (by rfl) (by rw [← HCS.out]; exact (HA6.out.kept hX).loadS)
    (try go_frame)
    refine wpAnyH_ready (rs := [42]) (by kernel_rfl) (by simp) ?_
    refine AllReadyH.cons rfl (fun K hK => ?_) AllReadyH.nil
    go_simp
    refine (elic_c HCS.out.symm).mono ?_
    rintro e Xc ⟨rfl, hkXc⟩
    rw [elic_sF]
    refine hK.out _ _ (hS.trans hkXc) (fun hS => ?_)
    clear hK K
    refine takeH (i := 43) (v := .bool true) (some 71) rfl rfl (by kernel_rfl) (by kernel_rfl) (by kernel_rfl) (fun _ _ _ h => h) (Or.inl ⟨by rfl, fun X hX => ?_⟩) hS ?_
    · go_simp
    (try go_frame)
    refine takeH (i := 44) (v := .bool true) (some 72) rfl rfl (by kernel_rfl) (by kernel_rfl) (by kernel_rfl) (fun _ _ _ h => h) (Or.inl ⟨by rfl, fun X hX => ?_⟩) hS ?_
    · go_simp
    (try go_frame)
    refine takeH (i := 45) (v := .agg CA) (some 73) rfl rfl (by kernel_rfl) (by kernel_rfl) (by kernel_rfl) (fun _ _ _ h => h) (Or.inl ⟨by rfl, fun X hX => ?_⟩) hS ?_
    · exact exec_load' rfl (p := .pointer (some ⟨pa, 0, none⟩)) (by rfl) (by rw [← HCA.out]; exact (HA6.out.kept hX).loadA)
    (try go_frame)
    refine wpAnyH_ready (rs := [46]) (by kernel_rfl) (by simp) ?_
    refine AllReadyH.cons rfl (fun K hK => ?_) AllReadyH.nil
    go_simp
    refine (elic_c HCA.out.symm).mono ?_
    rintro e Xd ⟨rfl, hkXd⟩
    rw [elic_aF]
    refine hK.out _ _ (hS.trans hkXd) (fun hS => ?_)
    clear hK K
    refine takeH (i := 47) (v := .bool true) (some 75) rfl rfl (by kernel_rfl) (by kernel_rfl) (by kernel_rfl) (fun _ _ _ h => h) (Or.inl ⟨by rfl, fun X hX => ?_⟩) hS ?_
    · go_simp
    (try go_frame)
    refine takeH (i := 48) (v := .bool true) (some 76) rfl rfl (by kernel_rfl) (by kernel_rfl) (by kernel_rfl) (fun _ _ _ h => h) (Or.inl ⟨by rfl, fun X hX => ?_⟩) hS ?_
    · go_simp
    (try go_frame)
    refine takeH (i := 49) (v := .bool true) (some 0) rfl rfl (by kernel_rfl) (by kernel_rfl) (by kernel_rfl) (fun _ _ _ h => h) (Or.inl ⟨by rfl, fun X hX => ?_⟩) hS ?_
    · go_simp
    (try go_frame)
    refine wpAnyH_done (by kernel_rfl) ?_ _
    go_wp2_with fail
    go_ret
    exact ⟨rfl, HA6.out.m.trans hS⟩
  · skip
    go_simp
    refine hK.out _ _ (hS.alloc _) (fun hS => ?_)
    clear hK K
    refine wpAnyH_ready (rs := [1]) (by kernel_rfl) (by simp) ?_
    refine AllReadyH.cons rfl (fun K hK => ?_) AllReadyH.nil
    have HZ2 := byts_lit W6.drew [1] #[.int .u8 1] 1 rfl rfl (by decide)
    go_simp
    refine (fput_c HCP.out ((HA6.out.kept hS).m.tabs HT.out (fun h => h)) (frv_p _) (by decide) ok_p rng_p put_ping rfl).mono ?_
    rintro e Y1 ⟨a7, c7, rfl, ho7, hk7⟩
    refine hK.out _ _ (hS.trans hk7) (fun hS => ?_)
    clear hK K
    have HY1 := ho7.byts
    have HY2 := byts_kept HZ2 hk7
    clear hk7 ho7 HZ2
    refine wpAnyH_ready (rs := [3]) (by kernel_rfl) (by simp) ?_
    refine AllReadyH.cons rfl (fun K hK => ?_) AllReadyH.nil
    go_simp
    refine (same_c HY1 HY2).mono ?_
    rintro e X7 ⟨rfl, hkX7⟩
    rw [show decide (([1] : List UInt8) = [1]) = true from by decide]
    refine hK.out _ _ (hS.trans hkX7) (fun hS => ?_)
    clear hK K
    refine takeH (i := 4) (v := .bool true) (some 32) rfl rfl (by kernel_rfl) (by kernel_rfl) (by kernel_rfl) (fun _ _ _ h => h) (Or.inl ⟨by rfl, fun X hX => ?_⟩) hS ?_
    · go_simp
    (try go_frame)
    refine takeH (i := 5) (v := .int .i64 0) (some 33) rfl rfl (by kernel_rfl) (by kernel_rfl) (by kernel_rfl) (fun _ _ _ h => h) (Or.inl ⟨by rfl, fun X hX => ?_⟩) hS ?_
    · go_simp
    (try go_frame)
    refine takeH (i := 6) (v := .bool true) (some 34) rfl rfl (by kernel_rfl) (by kernel_rfl) (by kernel_rfl) (fun _ _ _ h => h) (Or.inl ⟨by rfl, fun X hX => ?_⟩) hS ?_
    · go_simp
    (try go_frame)
    refine takeH (i := 7) (v := .bool true) (some 35) rfl rfl (by kernel_rfl) (by kernel_rfl) (by kernel_rfl) (fun _ _ _ h => h) (Or.inl ⟨by rfl, fun X hX => ?_⟩) hS ?_
    · go_simp
    (try go_frame)
    refine takeH (i := 8) (v := .bool true) (some 36) rfl rfl (by kernel_rfl) (by kernel_rfl) (by kernel_rfl) (fun _ _ _ h => h) (Or.inl ⟨by rfl, fun X hX => ?_⟩) hS ?_
    · go_simp
    (try go_frame)
    refine takeH (i := 9) (v := .int .i64 3) (some 37) rfl rfl (by kernel_rfl) (by kernel_rfl) (by kernel_rfl) (fun _ _ _ h => h) (Or.inl ⟨by rfl, fun X hX => ?_⟩) hS ?_
    · go_simp
    (try go_frame)
    refine takeH (i := 10) (v := .bool true) (some 38) rfl rfl (by kernel_rfl) (by kernel_rfl) (by kernel_rfl) (fun _ _ _ h => h) (Or.inl ⟨by rfl, fun X hX => ?_⟩) hS ?_
    · go_simp
    (try go_frame)
    refine takeH (i := 11) (v := .bool true) (some 39) rfl rfl (by kernel_rfl) (by kernel_rfl) (by kernel_rfl) (fun _ _ _ h => h) (Or.inl ⟨by rfl, fun X hX => ?_⟩) hS ?_
    · go_simp
    (try go_frame)
    refine takeH (i := 12) (v := .bool true) (some 40) rfl rfl (by kernel_rfl) (by kernel_rfl) (by kernel_rfl) (fun _ _ _ h => h) (Or.inl ⟨by rfl, fun X hX => ?_⟩) hS ?_
    · go_simp
    (try go_frame)
    refine takeH (i := 13) (v := .slice (some ⟨g5, 0, none⟩) 2 c5) (some 41) rfl rfl (by kernel_rfl) (by kernel_rfl) (by kernel_rfl) (fun _ _ _ h => h) (Or.inl ⟨by rfl, fun X hX => ?_⟩) hS ?_
    · go_simp
    (try go_frame)
    refine takeH (i := 14) (v := .int .i64 2) (some 42) rfl rfl (by kernel_rfl) (by kernel_rfl) (by kernel_rfl) (fun _ _ _ h => h) (Or.inl ⟨by rfl, fun X hX => ?_⟩) hS ?_
    · go_simp
    (try go_frame)
    refine takeH (i := 15) (v := .bool true) (some 43) rfl rfl (by kernel_rfl) (by kernel_rfl) (by kernel_rfl) (fun _ _ _ h => h) (Or.inl ⟨by rfl, fun X hX => ?_⟩) hS ?_
    · go_simp
    (try go_frame)
    refine takeH (i := 16) (v := .bool true) (some 44) rfl rfl (by kernel_rfl) (by kernel_rfl) (by kernel_rfl) (fun _ _ _ h => h) (Or.inl ⟨by rfl, fun X hX => ?_⟩) hS ?_
    · go_simp
    (try go_frame)
    refine takeH (i := 17) (v := .bool true) (some 45) rfl rfl (by kernel_rfl) (by kernel_rfl) (by kernel_rfl) (fun _ _ _ h => h) (Or.inl ⟨by rfl, fun X hX => ?_⟩) hS ?_
    · go_simp
    (try go_frame)
    refine takeH (i := 18) (v := .slice (some ⟨g5, 0, none⟩) 2 c5) (some 46) rfl rfl (by kernel_rfl) (by kernel_rfl) (by kernel_rfl) (fun _ _ _ h => h) (Or.inl ⟨by rfl, fun X hX => ?_⟩) hS ?_
    · go_simp
    (try go_frame)
    refine takeH (i := 19) (v := .pointer (some ⟨g5, 0, none⟩)) (some 47) rfl rfl (by kernel_rfl) (by kernel_rfl) (by kernel_rfl) (fun _ _ _ h => h) (Or.inl ⟨by rfl, fun X hX => ?_⟩) hS ?_
    · go_simp
    (try go_frame)
    refine takeH (i := 20) (v := .agg C0) (some 48) rfl rfl (by kernel_rfl) (by kernel_rfl) (by kernel_rfl) (fun _ _ _ h => h) (Or.inl ⟨by rfl, fun X hX => ?_⟩) hS ?_
    · exact exec_load' rfl (p := .pointer (some ⟨g5, 0, none⟩)) (by rfl) (by rw [← HC0.out]; exact OwnF.load (range_kept (by rw [HC0.out]; exact HQ0.out) hX (fun h => h)) rfl)
    (try go_frame)
    refine takeH (i := 21) (v := .agg CA) (some 49) rfl rfl (by kernel_rfl) (by kernel_rfl) (by kernel_rfl) (fun _ _ _ h => h) (Or.inl ⟨by rfl, fun X hX => ?_⟩) hS ?_
    · exact exec_load' rfl (p := .pointer (some ⟨pa, 0, none⟩)) (by rfl) (by rw [← HCA.out]; exact (HA6.out.kept hX).loadA)
    (try go_frame)
    refine wpAnyH_ready (rs := [22]) (by kernel_rfl) (by simp) ?_
    refine AllReadyH.cons rfl (fun K hK => ?_) AllReadyH.nil
    go_simp
    refine (fsame_c HC0.out.symm HCA.out.symm (HG0.out.kept hS) (HA6.out.kept hS).av (by decide) (by decide)).mono ?_
    rintro e X8 ⟨rfl, hkX8⟩
    rw [same_aF]
    refine hK.out _ _ (hS.trans hkX8) (fun hS => ?_)
    clear hK K
    refine takeH (i := 23) (v := .bool true) (some 51) rfl rfl (by kernel_rfl) (by kernel_rfl) (by kernel_rfl) (fun _ _ _ h => h) (Or.inl ⟨by rfl, fun X hX => ?_⟩) hS ?_
    · go_simp
    (try go_frame)
    refine takeH (i := 24) (v := .bool true) (some 52) rfl rfl (by kernel_rfl) (by kernel_rfl) (by kernel_rfl) (fun _ _ _ h => h) (Or.inl ⟨by rfl, fun X hX => ?_⟩) hS ?_
    · go_simp
    (try go_frame)
    refine takeH (i := 25) (v := .slice (some ⟨g5, 0, none⟩) 2 c5) (some 53) rfl rfl (by kernel_rfl) (by kernel_rfl) (by kernel_rfl) (fun _ _ _ h => h) (Or.inl ⟨by rfl, fun X hX => ?_⟩) hS ?_
    · go_simp
    (try go_frame)
    refine takeH (i := 26) (v := .pointer (some ⟨g5, 24, none⟩)) (some 54) rfl rfl (by kernel_rfl) (by kernel_rfl) (by kernel_rfl) (fun _ _ _ h => h) (Or.inl ⟨by rfl, fun X hX => ?_⟩) hS ?_
    · go_simp
    (try go_frame)
    refine takeH (i := 27) (v := .agg C1) (some 55) rfl rfl (by kernel_rfl) (by kernel_rfl) (by kernel_rfl) (fun _ _ _ h => h) (Or.inl ⟨by rfl, fun X hX => ?_⟩) hS ?_
    · exact exec_load' rfl (p := .pointer (some ⟨g5, 24, none⟩)) (by rfl) (by rw [← HC1.out]; exact OwnF.load (range_kept (by rw [HC1.out]; exact HQ1.out) hX (fun h => h)) rfl)
    (try go_frame)
    refine takeH (i := 28) (v := .agg CS) (some 56) rfl rfl (by kernel_rfl) (by kernel_rfl) (by kernel_rfl) (fun _ _ _ h => h) (Or.inl ⟨by rfl, fun X hX => ?_⟩) hS ?_
    · exact exec_load' rfl (p := .pointer (some ⟨ps, 0, none⟩)) (by rfl) (by rw [← HCS.out]; exact (HA6.out.kept hX).loadS)
    (try go_frame)
    refine wpAnyH_ready (rs := [29]) (by kernel_rfl) (by simp) ?_
    refine AllReadyH.cons rfl (fun K hK => ?_) AllReadyH.nil
    go_simp
    refine (fsame_c HC1.out.symm HCS.out.symm (HG1.out.kept hS) (HA6.out.kept hS).sv (by decide) (by decide)).mono ?_
    rintro e X9 ⟨rfl, hkX9⟩
    rw [same_sF]
    refine hK.out _ _ (hS.trans hkX9) (fun hS => ?_)
    clear hK K
    refine takeH (i := 30) (v := .bool true) (some 58) rfl rfl (by kernel_rfl) (by kernel_rfl) (by kernel_rfl) (fun _ _ _ h => h) (Or.inl ⟨by rfl, fun X hX => ?_⟩) hS ?_
    · go_simp
    (try go_frame)
    refine takeH (i := 31) (v := .bool true) (some 59) rfl rfl (by kernel_rfl) (by kernel_rfl) (by kernel_rfl) (fun _ _ _ h => h) (Or.inl ⟨by rfl, fun X hX => ?_⟩) hS ?_
    · go_simp
    (try go_frame)
    refine takeH (i := 32) (v := .agg CA) (some 60) rfl rfl (by kernel_rfl) (by kernel_rfl) (by kernel_rfl) (fun _ _ _ h => h) (Or.inl ⟨by rfl, fun X hX => ?_⟩) hS ?_
    · exact exec_load' rfl (p := .pointer (some ⟨pa, 0, none⟩)) (by rfl) (by rw [← HCA.out]; exact (HA6.out.kept hX).loadA)
    (try go_frame)
    refine wpAnyH_ready (rs := [33]) (by kernel_rfl) (by simp) ?_
    refine AllReadyH.cons rfl (fun K hK => ?_) AllReadyH.nil
    go_simp
    refine (right_c HCA.out.symm (HA6.out.kept hS).av (by decide) ok_a rng_aF).mono ?_
    rintro e Xa ⟨rfl, hkXa⟩
    rw [right_aF]
    refine hK.out _ _ (hS.trans hkXa) (fun hS => ?_)
    clear hK K
    refine takeH (i := 34) (v := .bool true) (some 62) rfl rfl (by kernel_rfl) (by kernel_rfl) (by kernel_rfl) (fun _ _ _ h => h) (Or.inl ⟨by rfl, fun X hX => ?_⟩) hS ?_
    · go_simp
    (try go_frame)
    refine takeH (i := 35) (v := .bool true) (some 63) rfl rfl (by kernel_rfl) (by kernel_rfl) (by kernel_rfl) (fun _ _ _ h => h) (Or.inl ⟨by rfl, fun X hX => ?_⟩) hS ?_
    · go_simp
    (try go_frame)
    refine takeH (i := 36) (v := .agg CZ) (some 64) rfl rfl (by kernel_rfl) (by kernel_rfl) (by kernel_rfl) (fun _ _ _ h => h) (Or.inl ⟨by rfl, fun X hX => ?_⟩) hS ?_
    · exact exec_build (pl := []) rfl (vals := []) (by rfl) (by rw [HCZ.out]; exact built_z)
    (try go_frame)
    refine wpAnyH_ready (rs := [37]) (by kernel_rfl) (by simp) ?_
    refine AllReadyH.cons rfl (fun K hK => ?_) AllReadyH.nil
    go_simp
    refine (right_c HCZ.out (frv_z _) (by decide) ok_z rng_z).mono ?_
    rintro e Xb ⟨rfl, hkXb⟩
    rw [right_zero]
    refine hK.out _ _ (hS.trans hkXb) (fun hS => ?_)
    clear hK K
    refine takeH (i := 38) (v := .bool true) (some 66) rfl rfl (by kernel_rfl) (by kernel_rfl) (by kernel_rfl) (fun _ _ _ h => h) (Or.inl ⟨by rfl, fun X hX => ?_⟩) hS ?_
    · go_simp
    (try go_frame)
    refine takeH (i := 39) (v := .bool true) (some 67) rfl rfl (by kernel_rfl) (by kernel_rfl) (by kernel_rfl) (fun _ _ _ h => h) (Or.inl ⟨by rfl, fun X hX => ?_⟩) hS ?_
    · go_simp
    (try go_frame)
    refine takeH (i := 40) (v := .bool true) (some 68) rfl rfl (by kernel_rfl) (by kernel_rfl) (by kernel_rfl) (fun _ _ _ h => h) (Or.inl ⟨by rfl, fun X hX => ?_⟩) hS ?_
    · go_simp
    (try go_frame)
    refine takeH (i := 41) (v := .agg CS) (some 69) rfl rfl (by kernel_rfl) (by kernel_rfl) (by kernel_rfl) (fun _ _ _ h => h) (Or.inl ⟨by rfl, fun X hX => ?_⟩) hS ?_
    · exact exec_load' rfl (p := .pointer (some ⟨ps, 0, none⟩)) (by rfl) (by rw [← HCS.out]; exact (HA6.out.kept hX).loadS)
    (try go_frame)
    refine wpAnyH_ready (rs := [42]) (by kernel_rfl) (by simp) ?_
    refine AllReadyH.cons rfl (fun K hK => ?_) AllReadyH.nil
    go_simp
    refine (elic_c HCS.out.symm).mono ?_
    rintro e Xc ⟨rfl, hkXc⟩
    rw [elic_sF]
    refine hK.out _ _ (hS.trans hkXc) (fun hS => ?_)
    clear hK K
    refine takeH (i := 43) (v := .bool true) (some 71) rfl rfl (by kernel_rfl) (by kernel_rfl) (by kernel_rfl) (fun _ _ _ h => h) (Or.inl ⟨by rfl, fun X hX => ?_⟩) hS ?_
    · go_simp
    (try go_frame)
    refine takeH (i := 44) (v := .bool true) (some 72) rfl rfl (by kernel_rfl) (by kernel_rfl) (by kernel_rfl) (fun _ _ _ h => h) (Or.inl ⟨by rfl, fun X hX => ?_⟩) hS ?_
    · go_simp
    (try go_frame)
    refine takeH (i := 45) (v := .agg CA) (some 73) rfl rfl (by kernel_rfl) (by kernel_rfl) (by kernel_rfl) (fun _ _ _ h => h) (Or.inl ⟨by rfl, fun X hX => ?_⟩) hS ?_
    · exact exec_load' rfl (p := .pointer (some ⟨pa, 0, none⟩)) (by rfl) (by rw [← HCA.out]; exact (HA6.out.kept hX).loadA)
    (try go_frame)
    refine wpAnyH_ready (rs := [46]) (by kernel_rfl) (by simp) ?_
    refine AllReadyH.cons rfl (fun K hK => ?_) AllReadyH.nil
    go_simp
    refine (elic_c HCA.out.symm).mono ?_
    rintro e Xd ⟨rfl, hkXd⟩
    rw [elic_aF]
    refine hK.out _ _ (hS.trans hkXd) (fun hS => ?_)
    clear hK K
    refine takeH (i := 47) (v := .bool true) (some 75) rfl rfl (by kernel_rfl) (by kernel_rfl) (by kernel_rfl) (fun _ _ _ h => h) (Or.inl ⟨by rfl, fun X hX => ?_⟩) hS ?_
    · go_simp
    (try go_frame)
    refine takeH (i := 48) (v := .bool true) (some 76) rfl rfl (by kernel_rfl) (by kernel_rfl) (by kernel_rfl) (fun _ _ _ h => h) (Or.inl ⟨by rfl, fun X hX => ?_⟩) hS ?_
    · go_simp
    (try go_frame)
    refine takeH (i := 49) (v := .bool true) (some 0) rfl rfl (by kernel_rfl) (by kernel_rfl) (by kernel_rfl) (fun _ _ _ h => h) (Or.inl ⟨by rfl, fun X hX => ?_⟩) hS ?_
    · go_simp
    (try go_frame)
    refine wpAnyH_done (by kernel_rfl) ?_ _
    go_wp2_with fail
    go_ret
    exact ⟨rfl, HA6.out.m.trans hS⟩
end Go.Proofs.YteegonadodmeeaaDoor
