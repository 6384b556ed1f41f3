/- A queue in memory; a timer is put to a place, two change places: the program's. (printed by gentec.py) -/
import Derived.Test.YtodcadcapmhgfaaTeB
namespace Go.Proofs.Ytodcadcapmhgfaa
open Go.RowKit

/-- A queue: its row of timers 'h', its map 'f', laid at most 'n' times. -/
structure QM (w : World) (B qb : Nat) (v : Value) (mb n : Nat) (h : List Tm) (f : Int × Int → Option Value) : Prop where
  bq : B ≤ qb
  bm : B ≤ mb
  blk : Blk w qb #[v, .map (some mb)] 51
  own : OwnT w B v h
  map : WMap w mb n f
theorem OwnT.blk {w : World} {B g c n : Nat} {h : List Tm} (ho : OwnT w B (.slice (some ⟨g, 0, none⟩) n c) h) : B ≤ g ∧ ∃ cur, Blk w g cur 27 := by
  rcases ho.2 with ⟨h1, _⟩ | ⟨g', cap', cur, he, hb, hg, _⟩
  · cases h1
  · simp only [Value.slice.injEq, Option.some.injEq, Addr.mk.injEq, and_true] at he
    obtain ⟨rfl, _⟩ := he
    exact ⟨hb, cur, hg⟩
theorem QM.vq {w : World} {B qb mb n : Nat} {v : Value} {h : List Tm} {f : Int × Int → Option Value} (q : QM w B qb v mb n h f) : ¬ v.ownBlock = some qb := q.own.apart q.blk (by decide)
theorem QM.mq {w : World} {B qb mb n : Nat} {v : Value} {h : List Tm} {f : Int × Int → Option Value} (q : QM w B qb v mb n h f) : ¬ mb = qb := q.map.ne q.blk
theorem QM.vm {w : World} {B qb mb n : Nat} {v : Value} {h : List Tm} {f : Int × Int → Option Value} (q : QM w B qb v mb n h f) : ¬ v.ownBlock = some mb := by
  intro e
  rcases q.own.2 with ⟨rfl, _⟩ | ⟨g, cap, cur, rfl, _, hg, _⟩
  · simp [Value.ownBlock] at e
  · simp [Value.ownBlock] at e
    subst e
    exact q.map.ne (show Blk w g cur 27 from hg) rfl
theorem QM.kept {S : Nat → Prop} {w w' : World} {B qb mb n : Nat} {v : Value} {h : List Tm} {f : Int × Int → Option Value} (q : QM w B qb v mb n h f) (hM : Mod S w w') (hv : ∀ g, v.ownBlock = some g → ¬ S g) (h1 : ¬ S qb) (h2 : ¬ S mb) : QM w' B qb v mb n h f :=
  ⟨q.bq, q.bm, hM.blk q.blk h1, q.own.kept hM hv, q.map.kept hM h2⟩
theorem QM.still {w w' : World} {B qb mb n : Nat} {v : Value} {h : List Tm} {f : Int × Int → Option Value} (q : QM w B qb v mb n h f) (hM : Mod (fun _ => False) w w') : QM w' B qb v mb n h f := q.kept hM (fun _ _ h => h) (fun h => h) (fun h => h)
/-- What may be written when timers change places. -/
def QS (v : Value) (mb : Nat) : Nat → Prop := fun k => v.ownBlock = some k ∨ k = mb
theorem step_run {P : Program} {w w' : World} {ops : Array Oper} {o : Oper} {a : Act} {K : Act → World → Prop} {Q : Exit → Act → World → Prop} {E : Prop} {v : Value} (hg : o.guard = none) (hr : (execOp a.eval o).run P w = .ok (.value v) w') (h : K (a.put o.dst v) w') :
    if Region.wanted o (yielded ops a.tmps) = true then Oper.wp P o a w K Q else E := by
  have hw : Region.wanted o (yielded ops a.tmps) = true := by simp [Region.wanted, hg]
  rw [if_pos hw]
  unfold Oper.wp
  rw [hr]
  exact h
theorem step_skip {P : Program} {w w' : World} {ops : Array Oper} {o : Oper} {a : Act} {K : Act → World → Prop} {Q : Exit → Act → World → Prop} {E : Prop} (hg : o.guard = none) (hr : (execOp a.eval o).run P w = .ok .skip w') (h : K (a.put o.dst undef) w') :
    if Region.wanted o (yielded ops a.tmps) = true then Oper.wp P o a w K Q else E := by
  have hw : Region.wanted o (yielded ops a.tmps) = true := by simp [Region.wanted, hg]
  rw [if_pos hw]
  unfold Oper.wp
  rw [hr]
  exact h
theorem exec_store {P : Program} {w w' : World} {a : Act} {op : Oper} {ty : TypeId} {x y : Operand} (ho : op.op = .store ty x y) {p : Addr} {v : Value} (hx : a.eval x = .pointer (some p)) (hy : a.eval y = v) (hl : (storeVar ty p v).run P w = .ok () w') : (execOp a.eval op).run P w = .ok .skip w' := by
  unfold execOp
  simp only [ho, hx, hy, Instr.storeAt, Instr.sureAddr, Sem.run_bind, Sem.run_pure, Result.andThen_ok, hl]
def updK (f : Int × Int → Option Value) (p : Int × Int) (v : Value) : Int × Int → Option Value := fun y => if y = p then some v else f y
theorem exec_wput {w w' : World} {a : Act} {op : Oper} {m x v : Operand} {t : TypeId} (ho : op.op = .mapUpdate t m x v) {mv k e : Value} (hm : a.eval m = mv) (hx : a.eval x = k) (hv : a.eval v = e) (hr : (Instr.mapUpdate t mv k e).run Try.prog w = .ok () w') : (execOp a.eval op).run Try.prog w = .ok .skip w' := by
  unfold execOp
  simp only [ho, hm, hx, hv, Sem.run_bind, Sem.run_pure, Result.andThen_ok, hr]
theorem blk_put {w : World} {b : Nat} {C : Array Value} (t : Tm) (h : Blk w b C 27) (hs : C.size = 3) : ∃ w', (storeVar 27 ⟨b, 0, none⟩ (.agg (tmA t))).run Try.prog w = .ok () w' ∧ Blk w' b (tmA t) 27 ∧ Mod (fun k => k = b) w w' := by
  obtain ⟨w', C', hr, hB, hs', he, hM⟩ := blk_store (P := Try.prog) 0 27 h (cells := tmA t) sizeTm (by show 0 + 3 ≤ _; omega) (tmA_one t)
  have e : C' = tmA t := by
    apply Array.toList_inj.1
    rw [he, List.drop_of_length_le (by simp; show C.size ≤ 3; omega)]
    simp
  subst e
  exact ⟨w', hr, hB, hM⟩
theorem size_tm (t : Tm) : (Try.prog.info? 27).map (·.size) = some (tmA t).size := sizeTm
set_option maxHeartbeats 4000000 in
set_option maxRecDepth 10000 in
theorem put_any {w : World} {B qb mb n i : Nat} {v : Value} {h : List Tm} {f : Int × Int → Option Value} (t : Tm) (q : QM w B qb v mb n h f) (hi : i < h.length) (hn : n < maxLen) (hk : okK (keyT t)) :
    Calls Try.prog 27 #[.pointer (some ⟨qb, 0, none⟩), .int .i64 i, .agg (tmA t)] w fun e w' => e = .returned (.tuple #[]) ∧ QM w' B qb v mb (n + 1) (h.set i t) (updK f (keyT t) (.int .i64 i)) ∧ Mod (QS v mb) w w' := by
  obtain ⟨g, cap, hv, hcap, hg, -⟩ := q.own.at (List.getElem?_eq_getElem hi)
  have HN := Lib.hid hn
  have HK := Lib.hid hk
  clear hn hk
  have i0 : (0 : Int) ≤ (i : Int) := by omega
  have i1 : (i : Int) < (h.length : Int) := by omega
  have HI := Lib.hid hi
  obtain ⟨W, hW⟩ : ∃ W, W = w.alloc (.cells (tmA t) 27) := ⟨_, rfl⟩
  have HB : Hid (Blk W w.heap.size (tmA t) 27) := by rw [hW]; exact Blk.new _ _ _
  have HM : Hid (Mod (fun _ => False) w W) := by rw [hW]; exact (Mod.refl _ _).alloc _
  have HQ : Hid (QM W B qb v mb n h f) := q.still HM.out
  have hgl : Hid (g < w.heap.size ∧ qb < w.heap.size ∧ mb < w.heap.size) := by
    refine ⟨?_, q.blk.lt, q.map.lt⟩
    have := q.own
    rw [hv] at this
    obtain ⟨_, cur, hb⟩ := this.blk
    exact hb.lt
  obtain ⟨A, hA⟩ : ∃ x, x = tmA t := ⟨_, rfl⟩
  rw [← hA] at hW ⊢
  have HA := Lib.hid hA
  have hc0 := hcap
  clear hA q hi hcap
  subst hv
  go_enter Try.func27, Try.ntmps27
  go_wp2_with fail
  (try go_frame)
  rw [← hW]
  have HW := Lib.hid hW
  clear hW
  refine wp_region_held_drew (S := fun X => Mod (fun k => k = g) W X) (by kernel_rfl) (Mod.refl _ _).drew (fun hS => ?_)
  refine takeH (i := 0) (v := .pointer (some ⟨qb, 0, none⟩)) (some 6) rfl rfl (by kernel_rfl) (by kernel_rfl) (by kernel_rfl) (fun _ _ _ h => h) (Or.inl ⟨by rfl, fun X hX => ?_⟩) hS ?_
  · go_simp
  (try go_frame)
  refine takeH (i := 1) (v := .pointer (some ⟨qb, 0, none⟩)) (some 7) rfl rfl (by kernel_rfl) (by kernel_rfl) (by kernel_rfl) (fun _ _ _ h => h) (Or.inl ⟨by rfl, fun X hX => ?_⟩) hS ?_
  · go_simp
  (try go_frame)
  refine takeH (i := 2) (v := .pointer (some ⟨qb, 0, none⟩)) (some 8) rfl rfl (by kernel_rfl) (by kernel_rfl) (by kernel_rfl) (fun _ _ _ h => h) (Or.inl ⟨by rfl, fun X hX => ?_⟩) hS ?_
  · go_simp
  (try go_frame)
  refine takeH (i := 3) (v := .slice (some ⟨g, 0, none⟩) h.length cap) (some 9) rfl rfl (by kernel_rfl) (by kernel_rfl) (by kernel_rfl) (fun _ _ _ h => h) (Or.inl ⟨by rfl, fun X hX => ?_⟩) hS ?_
  · have c := hX.cellAt (HQ.out.blk.cellAt 0 rfl) (fun e => HQ.out.vq (congrArg some (Eq.symm e))); go_simp
  (try go_frame)
  refine takeH (i := 4) (v := .int .i64 (i : Int)) (some 10) rfl rfl (by kernel_rfl) (by kernel_rfl) (by kernel_rfl) (fun _ _ _ h => h) (Or.inl ⟨by rfl, fun X hX => ?_⟩) hS ?_
  · go_simp
  (try go_frame)
  refine takeH (i := 5) (v := .agg (tmA t)) (some 11) rfl rfl (by kernel_rfl) (by kernel_rfl) (by kernel_rfl) (fun _ _ _ h => h) (Or.inl ⟨by rfl, fun X hX => ?_⟩) hS ?_
  · exact exec_load' (x := .tmp 5) rfl rfl (tm_load ((hX.blk HB.out (fun e => by have := hgl.out; omega)).whole))
  (try go_frame)
  refine takeH (i := 6) (v := .pointer (some ⟨g, i * 3, none⟩)) (some 12) rfl rfl (by kernel_rfl) (by kernel_rfl) (by kernel_rfl) (fun _ _ _ h => h) (Or.inl ⟨by rfl, fun X hX => ?_⟩) hS ?_
  · go_simp
  (try go_frame)
  refine wpAnyH_ready (rs := [7]) (by kernel_rfl) (by simp) ?_
  refine AllReadyH.cons (o := ⟨none, _, _, _, _, none⟩) rfl (fun K hK => ?_) AllReadyH.nil
  obtain ⟨w7, hr, ho7, hM7⟩ := (HQ.out.own.kept (Mod.refl (fun _ => False) W).drew (fun _ _ h => h)).store t HI.out
  refine step_skip rfl (exec_store (x := .tmp 12) (y := .tmp 11) rfl rfl rfl hr) ?_
  refine hK.out _ _ (hS.trans hM7) (fun hS => ?_)
  clear hK K
  refine wpAnyH_done (by kernel_rfl) ?_ _
  obtain ⟨V, hV⟩ : ∃ V, V = (Value.slice (some ⟨g, 0, none⟩) h.length cap) := ⟨_, rfl⟩
  have hvl : (Value.slice (some ⟨g, 0, none⟩) (h.set i t).length cap) = V := by rw [hV, List.length_set]
  rw [hvl] at ho7
  have HQ7 : Hid (Blk w7 qb #[V, .map (some mb)] 51 ∧ OwnT w7 B V (h.set i t) ∧ WMap w7 mb n f ∧ Mod (QS V mb) w w7 ∧ Blk w7 w.heap.size (tmA t) 27 ∧ B ≤ qb ∧ B ≤ mb) := by
    have hq := HQ.out
    have hgl := hgl.out
    rw [← hV] at hq
    refine ⟨hS.blk hq.blk (fun e => hq.vq (by rw [hV]; exact congrArg some (Eq.symm e))), ho7, hq.map.kept hS (fun e => hq.vm (by rw [hV]; exact congrArg some (Eq.symm e))), (HM.out.mono (T := QS V mb) (fun _ _ h => h.elim)).trans' hS (fun k _ e => .inl (by rw [hV]; exact congrArg some (Eq.symm e))), hS.blk HB.out (fun e => by omega), hq.bq, hq.bm⟩
  rw [← hV]
  have HV := Lib.hid hV
  clear hV hS hM7 hr ho7 hvl
  go_wp2_with fail
  (try go_frame)
  refine wp_region_held_drew (S := fun X => Mod (fun k => k = mb) w7 X) (by kernel_rfl) (Mod.refl _ _).drew (fun hS => ?_)
  refine takeH (i := 0) (v := .pointer (some ⟨qb, 0, none⟩)) (some 13) rfl rfl (by kernel_rfl) (by kernel_rfl) (by kernel_rfl) (fun _ _ _ h => h) (Or.inl ⟨by rfl, fun X hX => ?_⟩) hS ?_
  · go_simp
  (try go_frame)
  refine takeH (i := 1) (v := .pointer (some ⟨qb, 0, none⟩)) (some 14) rfl rfl (by kernel_rfl) (by kernel_rfl) (by kernel_rfl) (fun _ _ _ h => h) (Or.inl ⟨by rfl, fun X hX => ?_⟩) hS ?_
  · go_simp
  (try go_frame)
  refine takeH (i := 2) (v := .pointer (some ⟨qb, 1, none⟩)) (some 15) rfl rfl (by kernel_rfl) (by kernel_rfl) (by kernel_rfl) (fun _ _ _ h => h) (Or.inl ⟨by rfl, fun X hX => ?_⟩) hS ?_
  · go_simp
  (try go_frame)
  refine takeH (i := 3) (v := .map (some mb)) (some 16) rfl rfl (by kernel_rfl) (by kernel_rfl) (by kernel_rfl) (fun _ _ _ h => h) (Or.inl ⟨by rfl, fun X hX => ?_⟩) hS ?_
  · have c := hX.cellAt (HQ7.out.1.cellAt 1 rfl) (fun e => WMap.ne HQ7.out.2.2.1 HQ7.out.1 (Eq.symm e)); go_simp
  (try go_frame)
  refine takeH (i := 4) (v := .pointer (some ⟨w.heap.size, 1, none⟩)) (some 17) rfl rfl (by kernel_rfl) (by kernel_rfl) (by kernel_rfl) (fun _ _ _ h => h) (Or.inl ⟨by rfl, fun X hX => ?_⟩) hS ?_
  · go_simp
  (try go_frame)
  refine takeH (i := 5) (v := .int .i64 t.c) (some 18) rfl rfl (by kernel_rfl) (by kernel_rfl) (by kernel_rfl) (fun _ _ _ h => h) (Or.inl ⟨by rfl, fun X hX => ?_⟩) hS ?_
  · have c : X.cell? ⟨w.heap.size, 1, none⟩ = some (.int .i64 t.c) := hX.cellAt (HQ7.out.2.2.2.2.1.cellAt 1 rfl) (fun e => by have := hgl.out; have : w.heap.size = mb := e; omega); go_simp
  (try go_frame)
  refine takeH (i := 6) (v := .pointer (some ⟨w.heap.size, 2, none⟩)) (some 19) rfl rfl (by kernel_rfl) (by kernel_rfl) (by kernel_rfl) (fun _ _ _ h => h) (Or.inl ⟨by rfl, fun X hX => ?_⟩) hS ?_
  · go_simp
  (try go_frame)
  refine takeH (i := 7) (v := .int .i64 t.k) (some 20) rfl rfl (by kernel_rfl) (by kernel_rfl) (by kernel_rfl) (fun _ _ _ h => h) (Or.inl ⟨by rfl, fun X hX => ?_⟩) hS ?_
  · have c : X.cell? ⟨w.heap.size, 2, none⟩ = some (.int .i64 t.k) := hX.cellAt (HQ7.out.2.2.2.2.1.cellAt 2 rfl) (fun e => by have := hgl.out; have : w.heap.size = mb := e; omega); go_simp
  (try go_frame)
  refine takeH (i := 8) (v := wK (keyT t)) (some 21) rfl rfl (by kernel_rfl) (by kernel_rfl) (by kernel_rfl) (fun _ _ _ h => h) (Or.inl ⟨by rfl, fun X hX => ?_⟩) hS ?_
  · go_simp; rfl
  (try go_frame)
  refine takeH (i := 9) (v := .int .i64 (i : Int)) (some 22) rfl rfl (by kernel_rfl) (by kernel_rfl) (by kernel_rfl) (fun _ _ _ h => h) (Or.inl ⟨by rfl, fun X hX => ?_⟩) hS ?_
  · go_simp
  (try go_frame)
  refine wpAnyH_ready (rs := [10]) (by kernel_rfl) (by simp) ?_
  refine AllReadyH.cons (o := ⟨none, _, _, _, _, none⟩) rfl (fun K hK => ?_) AllReadyH.nil
  obtain ⟨w10, hr, ho10, hM10⟩ := (HQ7.out.2.2.1.kept (Mod.refl (fun _ => False) w7).drew (fun h => h)).put (t := 49) (p := keyT t) (.int .i64 (i : Int)) HK.out HN.out Try.underlying49
  refine step_skip rfl (exec_wput (m := .tmp 16) (x := .tmp 21) (v := .tmp 22) rfl rfl rfl rfl hr) ?_
  refine hK.out _ _ (hS.trans hM10) (fun hS => ?_)
  clear hK K
  have HF : Hid (QM w10 B qb V mb (n + 1) (h.set i t) (updK f (keyT t) (.int .i64 (i : Int))) ∧ Mod (QS V mb) w w10) := by
    obtain ⟨h1, h2, h3, h4, h5, h6, h7⟩ := HQ7.out
    have hq := HQ.out
    rw [← HV.out] at hq
    exact ⟨⟨h6, h7, hS.blk h1 (fun e => h3.ne h1 (Eq.symm e)), h2.kept hS (fun g' e1 e2 => hq.vm (by rw [e1]; exact congrArg some e2)), ho10⟩, h4.trans' hS (fun k _ e => .inr e)⟩
  clear hS hM10 hr ho10
  refine wpAnyH_done (by kernel_rfl) ?_ _
  go_wp2_with fail

  go_end0
  rw [← HV.out]
  exact ⟨rfl, HF.out⟩
set_option maxHeartbeats 4000000 in
set_option maxRecDepth 10000 in
theorem swap_any {w : World} {B qb mb n i k : Nat} {v : Value} {h : List Tm} {f : Int × Int → Option Value} {a b : Tm} (q : QM w B qb v mb n h f) (ha : h[i]? = some a) (hb : h[k]? = some b) (hn : n + 1 < maxLen) (hka : okK (keyT a)) (hkb : okK (keyT b)) :
    Calls Try.prog 33 #[.pointer (some ⟨qb, 0, none⟩), .int .i64 i, .int .i64 k] w fun e w' => e = .returned (.tuple #[]) ∧ QM w' B qb v mb (n + 2) (swp h i k a b) (updK (updK f (keyT b) (.int .i64 i)) (keyT a) (.int .i64 k)) ∧ Mod (QS v mb) w w' := by
  obtain ⟨g, cap, hv, hcap, hg, hra⟩ := q.own.at ha
  obtain ⟨g2, cap2, hv2, -, -, hrb⟩ := q.own.at hb
  obtain ⟨rfl, rfl⟩ : g2 = g ∧ cap2 = cap := by rw [hv] at hv2; simp at hv2; exact ⟨hv2.1.symm, hv2.2.symm⟩
  have hi : i < h.length := (List.getElem?_eq_some_iff.1 ha).1
  have hk : k < h.length := (List.getElem?_eq_some_iff.1 hb).1
  have i0 : (0 : Int) ≤ (i : Int) := by omega
  have i1 : (i : Int) < (h.length : Int) := by omega
  have k0 : (0 : Int) ≤ (k : Int) := by omega
  have k1 : (k : Int) < (h.length : Int) := by omega
  have HP : Hid (i < h.length ∧ k < h.length ∧ n + 1 < maxLen ∧ okK (keyT a) ∧ okK (keyT b)) := ⟨hi, hk, hn, hka, hkb⟩
  have HRA := Lib.hid hra
  have HRB := Lib.hid hrb
  have HQ := Lib.hid q
  have hc0 := hcap
  clear hi hk hn hka hkb hra hrb q ha hb hv2 hcap
  subst hv
  go_enter Try.func33, Try.ntmps33
  go_wp2_with fail
  (try go_frame)
  refine wp_region_held_drew (S := fun X => Mod (fun _ => False) w X) (by kernel_rfl) (Mod.refl _ _).drew (fun hS => ?_)
  refine takeH (i := 0) (v := .pointer (some ⟨qb, 0, none⟩)) (some 8) rfl rfl (by kernel_rfl) (by kernel_rfl) (by kernel_rfl) (fun _ _ _ h => h) (Or.inl ⟨by rfl, fun X hX => ?_⟩) hS ?_
  · go_simp
  (try go_frame)
  refine takeH (i := 1) (v := .pointer (some ⟨qb, 0, none⟩)) (some 9) rfl rfl (by kernel_rfl) (by kernel_rfl) (by kernel_rfl) (fun _ _ _ h => h) (Or.inl ⟨by rfl, fun X hX => ?_⟩) hS ?_
  · go_simp
  (try go_frame)
  refine takeH (i := 2) (v := .pointer (some ⟨qb, 0, none⟩)) (some 10) rfl rfl (by kernel_rfl) (by kernel_rfl) (by kernel_rfl) (fun _ _ _ h => h) (Or.inl ⟨by rfl, fun X hX => ?_⟩) hS ?_
  · go_simp
  (try go_frame)
  refine takeH (i := 3) (v := .slice (some ⟨g2, 0, none⟩) h.length cap2) (some 11) rfl rfl (by kernel_rfl) (by kernel_rfl) (by kernel_rfl) (fun _ _ _ h => h) (Or.inl ⟨by rfl, fun X hX => ?_⟩) hS ?_
  · have c := hX.cellAt (HQ.out.blk.cellAt 0 rfl) (fun e => e); go_simp
  (try go_frame)
  refine takeH (i := 4) (v := .int .i64 (i : Int)) (some 12) rfl rfl (by kernel_rfl) (by kernel_rfl) (by kernel_rfl) (fun _ _ _ h => h) (Or.inl ⟨by rfl, fun X hX => ?_⟩) hS ?_
  · go_simp
  (try go_frame)
  refine takeH (i := 5) (v := .pointer (some ⟨g2, i * 3, none⟩)) (some 13) rfl rfl (by kernel_rfl) (by kernel_rfl) (by kernel_rfl) (fun _ _ _ h => h) (Or.inl ⟨by rfl, fun X hX => ?_⟩) hS ?_
  · go_simp
  (try go_frame)
  refine takeH (i := 6) (v := .agg (tmA a)) (some 14) rfl rfl (by kernel_rfl) (by kernel_rfl) (by kernel_rfl) (fun _ _ _ h => h) (Or.inl ⟨by rfl, fun X hX => ?_⟩) hS ?_
  · exact exec_load' (x := .tmp 13) rfl rfl (tm_load (fun j u hu => hX.cellAt (HRA.out j u hu) (fun e => e)))
  (try go_frame)
  refine takeH (i := 7) (v := .pointer (some ⟨qb, 0, none⟩)) (some 15) rfl rfl (by kernel_rfl) (by kernel_rfl) (by kernel_rfl) (fun _ _ _ h => h) (Or.inl ⟨by rfl, fun X hX => ?_⟩) hS ?_
  · go_simp
  (try go_frame)
  refine takeH (i := 8) (v := .pointer (some ⟨qb, 0, none⟩)) (some 16) rfl rfl (by kernel_rfl) (by kernel_rfl) (by kernel_rfl) (fun _ _ _ h => h) (Or.inl ⟨by rfl, fun X hX => ?_⟩) hS ?_
  · go_simp
  (try go_frame)
  refine takeH (i := 9) (v := .pointer (some ⟨qb, 0, none⟩)) (some 17) rfl rfl (by kernel_rfl) (by kernel_rfl) (by kernel_rfl) (fun _ _ _ h => h) (Or.inl ⟨by rfl, fun X hX => ?_⟩) hS ?_
  · go_simp
  (try go_frame)
  refine takeH (i := 10) (v := .slice (some ⟨g2, 0, none⟩) h.length cap2) (some 18) rfl rfl (by kernel_rfl) (by kernel_rfl) (by kernel_rfl) (fun _ _ _ h => h) (Or.inl ⟨by rfl, fun X hX => ?_⟩) hS ?_
  · have c := hX.cellAt (HQ.out.blk.cellAt 0 rfl) (fun e => e); go_simp
  (try go_frame)
  refine takeH (i := 11) (v := .int .i64 (k : Int)) (some 19) rfl rfl (by kernel_rfl) (by kernel_rfl) (by kernel_rfl) (fun _ _ _ h => h) (Or.inl ⟨by rfl, fun X hX => ?_⟩) hS ?_
  · go_simp
  (try go_frame)
  refine takeH (i := 12) (v := .pointer (some ⟨g2, k * 3, none⟩)) (some 20) rfl rfl (by kernel_rfl) (by kernel_rfl) (by kernel_rfl) (fun _ _ _ h => h) (Or.inl ⟨by rfl, fun X hX => ?_⟩) hS ?_
  · go_simp
  (try go_frame)
  refine takeH (i := 13) (v := .agg (tmA b)) (some 21) rfl rfl (by kernel_rfl) (by kernel_rfl) (by kernel_rfl) (fun _ _ _ h => h) (Or.inl ⟨by rfl, fun X hX => ?_⟩) hS ?_
  · exact exec_load' (x := .tmp 20) rfl rfl (tm_load (fun j u hu => hX.cellAt (HRB.out j u hu) (fun e => e)))
  (try go_frame)
  have l0 : w.heap.size ≤ w.drew.heap.size := hS.size
  generalize w.drew = W0 at *
  refine wpAnyH_ready (rs := [14, 15]) (by kernel_rfl) (by simp) ?_
  refine (AllReadyH.cons (o := ⟨some 6, _, _, _, _, none⟩) rfl (fun K hK => ?_) (AllReadyH.cons (o := ⟨some 7, _, _, _, _, none⟩) rfl (fun K hK => ?_) AllReadyH.nil))
  · go_simp
    refine hK.out _ _ (hS.alloc _) (fun hS => ?_)
    clear hK K
    (try go_frame)
    have hB6 : Blk (W0.alloc (.cells #[.int .u64 0, .int .i64 0, .int .i64 0] 27)) W0.heap.size #[.int .u64 0, .int .i64 0, .int .i64 0] 27 := Blk.new _ _ _
    have l6 : w.heap.size ≤ W0.heap.size := l0
    replace l0 : w.heap.size ≤ (W0.alloc (.cells #[.int .u64 0, .int .i64 0, .int .i64 0] 27)).heap.size := hS.size
    generalize W0.alloc (.cells #[.int .u64 0, .int .i64 0, .int .i64 0] 27) = W1 at *
    generalize W0.heap.size = p6 at *
    refine wpAnyH_ready (rs := [15]) (by kernel_rfl) (by simp) ?_
    refine (AllReadyH.cons (o := ⟨some 7, _, _, _, _, none⟩) rfl (fun K hK => ?_) AllReadyH.nil)
    go_simp
    refine hK.out _ _ (hS.alloc _) (fun hS => ?_)
    clear hK K
    (try go_frame)
    have hB7 : Blk (W1.alloc (.cells #[.int .u64 0, .int .i64 0, .int .i64 0] 27)) W1.heap.size #[.int .u64 0, .int .i64 0, .int .i64 0] 27 := Blk.new _ _ _
    have l7 : w.heap.size ≤ W1.heap.size := l0
    have hne : p6 < W1.heap.size := hB6.lt
    replace hB6 := hB6.alloc (.cells #[.int .u64 0, .int .i64 0, .int .i64 0] 27)
    replace l0 : w.heap.size ≤ (W1.alloc (.cells #[.int .u64 0, .int .i64 0, .int .i64 0] 27)).heap.size := hS.size
    generalize W1.alloc (.cells #[.int .u64 0, .int .i64 0, .int .i64 0] 27) = W2 at *
    generalize W1.heap.size = p7 at *
    refine wpAnyH_ready (rs := [16]) (by kernel_rfl) (by simp) ?_
    refine (AllReadyH.cons (o := ⟨none, _, _, _, _, none⟩) rfl (fun K hK => ?_) AllReadyH.nil)
    obtain ⟨W3, hr, hB, hM⟩ := blk_put a hB6 rfl
    refine step_skip rfl (exec_store (x := .tmp 6) (y := .tmp 14) rfl rfl rfl hr) ?_
    refine hK.out _ _ (hS.trans' hM (fun k hk e => by omega)) (fun hS => ?_)
    clear hK K hr
    (try go_frame)
    replace hB7 := hM.blk hB7 (by omega)
    replace hB6 := hB
    replace l0 : w.heap.size ≤ W3.heap.size := hS.size
    clear hM hB
    refine wpAnyH_ready (rs := [17]) (by kernel_rfl) (by simp) ?_
    refine (AllReadyH.cons (o := ⟨none, _, _, _, _, none⟩) rfl (fun K hK => ?_) AllReadyH.nil)
    obtain ⟨W4, hr, hB, hM⟩ := blk_put b hB7 rfl
    refine step_skip rfl (exec_store (x := .tmp 7) (y := .tmp 21) rfl rfl rfl hr) ?_
    refine hK.out _ _ (hS.trans' hM (fun k hk e => by omega)) (fun hS => ?_)
    clear hK K hr
    (try go_frame)
    replace hB6 := hM.blk hB6 (by omega)
    replace hB7 := hB
    replace l0 : w.heap.size ≤ W4.heap.size := hS.size
    clear hM hB
    refine wpAnyH_done (by kernel_rfl) ?_ _
    have HQ4 := Lib.hid (HQ.out.still hS)
    have H67 : Hid (Blk W4 p6 (tmA a) 27 ∧ Blk W4 p7 (tmA b) 27 ∧ Mod (fun _ => False) w W4 ∧ w.heap.size ≤ p6) := ⟨hB6, hB7, hS, l6⟩
    have HNO : Hid (¬ QS (.slice (some ⟨g2, 0, none⟩) h.length cap2) mb p6) := by
      rintro (e1 | e1)
      · have e2 := (Option.some.inj e1 : g2 = p6)
        obtain ⟨_, cur, hb⟩ := (OwnT.blk HQ.out.own)
        have := hb.lt
        omega
      · have := HQ.out.map.lt
        omega
    clear l0 l6 l7 hne hB6 hB7 hS
    go_wp2_with (first
      | ((with_reducible refine wpList_load_blk ?_ 27 (.tmp 7) ?_ p7 ?_ (tmA b) 27 _ H67.out.2.1 Try.underlying27 ?_ (size_tm b) ?_); (· exact rfl); (· exact rfl); (· exact rfl); (· exact rfl))
      | ((with_reducible refine wpList_load_blk ?_ 27 (.tmp 6) ?_ p6 ?_ (tmA a) 27 _ H67b.out Try.underlying27 ?_ (size_tm a) ?_); (· exact rfl); (· exact rfl); (· exact rfl); (· exact rfl))
      | (go_at_call 27; refine (put_any a HQ5.out (by rw [List.length_set]; exact HP.out.2.1) (by have := HP.out.2.2.1; omega) HP.out.2.2.2.1).mono ?_; rintro e w6 ⟨rfl, hq6, hM6⟩; have HQ6 := Lib.hid hq6; have HM6 := Lib.hid hM6; clear hq6 hM6)
      | (go_at_call 27; refine (put_any b HQ4.out HP.out.1 (by have := HP.out.2.2.1; omega) HP.out.2.2.2.2).mono ?_; rintro e w5 ⟨rfl, hq5, hM5⟩; have HQ5 := Lib.hid hq5; have HM5 := Lib.hid hM5; have H67b := Lib.hid (hM5.blk H67.out.1 HNO.out); clear hq5 hM5)
      | fail)
    go_end0
    exact ⟨rfl, HQ6.out, ((H67.out.2.2.1.mono (T := QS _ mb) (fun _ _ h => h.elim)).trans HM5.out).trans HM6.out⟩
  · go_simp
    refine hK.out _ _ (hS.alloc _) (fun hS => ?_)
    clear hK K
    (try go_frame)
    have hB7 : Blk (W0.alloc (.cells #[.int .u64 0, .int .i64 0, .int .i64 0] 27)) W0.heap.size #[.int .u64 0, .int .i64 0, .int .i64 0] 27 := Blk.new _ _ _
    have l7 : w.heap.size ≤ W0.heap.size := l0
    replace l0 : w.heap.size ≤ (W0.alloc (.cells #[.int .u64 0, .int .i64 0, .int .i64 0] 27)).heap.size := hS.size
    generalize W0.alloc (.cells #[.int .u64 0, .int .i64 0, .int .i64 0] 27) = W1 at *
    generalize W0.heap.size = p7 at *
    refine wpAnyH_ready (rs := [14]) (by kernel_rfl) (by simp) ?_
    refine (AllReadyH.cons (o := ⟨some 6, _, _, _, _, none⟩) rfl (fun K hK => ?_) AllReadyH.nil)
    go_simp
    refine hK.out _ _ (hS.alloc _) (fun hS => ?_)
    clear hK K
    (try go_frame)
    have hB6 : Blk (W1.alloc (.cells #[.int .u64 0, .int .i64 0, .int .i64 0] 27)) W1.heap.size #[.int .u64 0, .int .i64 0, .int .i64 0] 27 := Blk.new _ _ _
    have l6 : w.heap.size ≤ W1.heap.size := l0
    have hne : p7 < W1.heap.size := hB7.lt
    replace hB7 := hB7.alloc (.cells #[.int .u64 0, .int .i64 0, .int .i64 0] 27)
    replace l0 : w.heap.size ≤ (W1.alloc (.cells #[.int .u64 0, .int .i64 0, .int .i64 0] 27)).heap.size := hS.size
    generalize W1.alloc (.cells #[.int .u64 0, .int .i64 0, .int .i64 0] 27) = W2 at *
    generalize W1.heap.size = p6 at *
    refine wpAnyH_ready (rs := [16]) (by kernel_rfl) (by simp) ?_
    refine (AllReadyH.cons (o := ⟨none, _, _, _, _, none⟩) rfl (fun K hK => ?_) AllReadyH.nil)
    obtain ⟨W3, hr, hB, hM⟩ := blk_put a hB6 rfl
    refine step_skip rfl (exec_store (x := .tmp 6) (y := .tmp 14) rfl rfl rfl hr) ?_
    refine hK.out _ _ (hS.trans' hM (fun k hk e => by omega)) (fun hS => ?_)
    clear hK K hr
    (try go_frame)
    replace hB7 := hM.blk hB7 (by omega)
    replace hB6 := hB
    replace l0 : w.heap.size ≤ W3.heap.size := hS.size
    clear hM hB
    refine wpAnyH_ready (rs := [17]) (by kernel_rfl) (by simp) ?_
    refine (AllReadyH.cons (o := ⟨none, _, _, _, _, none⟩) rfl (fun K hK => ?_) AllReadyH.nil)
    obtain ⟨W4, hr, hB, hM⟩ := blk_put b hB7 rfl
    refine step_skip rfl (exec_store (x := .tmp 7) (y := .tmp 21) rfl rfl rfl hr) ?_
    refine hK.out _ _ (hS.trans' hM (fun k hk e => by omega)) (fun hS => ?_)
    clear hK K hr
    (try go_frame)
    replace hB6 := hM.blk hB6 (by omega)
    replace hB7 := hB
    replace l0 : w.heap.size ≤ W4.heap.size := hS.size
    clear hM hB
    refine wpAnyH_done (by kernel_rfl) ?_ _
    have HQ4 := Lib.hid (HQ.out.still hS)
    have H67 : Hid (Blk W4 p6 (tmA a) 27 ∧ Blk W4 p7 (tmA b) 27 ∧ Mod (fun _ => False) w W4 ∧ w.heap.size ≤ p6) := ⟨hB6, hB7, hS, l6⟩
    have HNO : Hid (¬ QS (.slice (some ⟨g2, 0, none⟩) h.length cap2) mb p6) := by
      rintro (e1 | e1)
      · have e2 := (Option.some.inj e1 : g2 = p6)
        obtain ⟨_, cur, hb⟩ := (OwnT.blk HQ.out.own)
        have := hb.lt
        omega
      · have := HQ.out.map.lt
        omega
    clear l0 l6 l7 hne hB6 hB7 hS
    go_wp2_with (first
      | ((with_reducible refine wpList_load_blk ?_ 27 (.tmp 7) ?_ p7 ?_ (tmA b) 27 _ H67.out.2.1 Try.underlying27 ?_ (size_tm b) ?_); (· exact rfl); (· exact rfl); (· exact rfl); (· exact rfl))
      | ((with_reducible refine wpList_load_blk ?_ 27 (.tmp 6) ?_ p6 ?_ (tmA a) 27 _ H67b.out Try.underlying27 ?_ (size_tm a) ?_); (· exact rfl); (· exact rfl); (· exact rfl); (· exact rfl))
      | (go_at_call 27; refine (put_any a HQ5.out (by rw [List.length_set]; exact HP.out.2.1) (by have := HP.out.2.2.1; omega) HP.out.2.2.2.1).mono ?_; rintro e w6 ⟨rfl, hq6, hM6⟩; have HQ6 := Lib.hid hq6; have HM6 := Lib.hid hM6; clear hq6 hM6)
      | (go_at_call 27; refine (put_any b HQ4.out HP.out.1 (by have := HP.out.2.2.1; omega) HP.out.2.2.2.2).mono ?_; rintro e w5 ⟨rfl, hq5, hM5⟩; have HQ5 := Lib.hid hq5; have HM5 := Lib.hid hM5; have H67b := Lib.hid (hM5.blk H67.out.1 HNO.out); clear hq5 hM5)
      | fail)
    go_end0
    exact ⟨rfl, HQ6.out, ((H67.out.2.2.1.mono (T := QS _ mb) (fun _ _ h => h.elim)).trans HM5.out).trans HM6.out⟩
end Go.Proofs.Ytodcadcapmhgfaa
