/- A timer is set: the program's. (printed by gentei.py) -/
import Derived.Test.YtodcadcapmhgfaaTeH
import Derived.Great.BuildSlice
namespace Go.Proofs.Ytodcadcapmhgfaa
open Go.RowKit

theorem infoTm : (Try.prog.info? 27).map (fun i => (i.zero, i.size, i.bytes)) = some (some (.agg #[.int .u64 0, .int .i64 0, .int .i64 0]), 3, 24) := by kernel_rfl
theorem info_parts' {P : Program} {t : TypeId} {z : Value} {s b : Nat} (h : (P.info? t).map (fun i => (i.zero, i.size, i.bytes)) = some (some z, s, b)) : ∃ i, P.info? t = some i ∧ i.zero = some z ∧ i.size = s ∧ i.bytes = b := by
  cases hi : P.info? t with
  | none => rw [hi] at h; cases h
  | some i =>
    rw [hi] at h
    simp at h
    exact ⟨i, rfl, h.1, h.2.1, h.2.2⟩
theorem OwnT.append {w : World} {B nb : Nat} {v : Value} {h : List Tm} {t : Tm} (ho : OwnT w B v h) (hl : h.length ≤ 200) (hB : B ≤ w.heap.size) (hb : Blk w nb (tmA t) 27) (ty : TypeId) :
    ∃ ap cp w', (Builtin.append_ #[34, 34] ty #[v, .slice (some ⟨nb, 0, none⟩) 1 1]).run Try.prog w = .ok (.slice ap (h.length + 1) cp) w' ∧ OwnT w' B (.slice ap (h.length + 1) cp) (h ++ [t]) ∧ w.grownBy w' v.ownBlock ∧ ((Value.slice ap (h.length + 1) cp).ownBlock = v.ownBlock ∨ (Value.slice ap (h.length + 1) cp).ownBlock = some w.heap.size) := by
  obtain ⟨i0, hi, hz0, hz1, hz2⟩ := info_parts' infoTm
  obtain ⟨v', w', hr, ho', hg, -, hat⟩ := run_append_own_at (P := Try.prog) w B 34 ty 27 i0 _ 3 24 Try.underlying34 hi hz0 hz1 hz2 rfl (by decide) v h.length (h.flatMap tmL) ho ⟨nb, 0, none⟩ 1 1 (tmL t) rfl
    (fun j u hu => by rw [Addr.add_lit, Nat.zero_add]; exact (hb.cell j).trans (by rw [← tmA_list] at hu; simpa using hu)) (fun u hu => tmA_one t u hu) (by unfold maxLen; omega) (by omega) hB
  have ho2 : OwnT w' B v' (h ++ [t]) := by
    unfold OwnT
    simpa using ho'
  obtain ⟨ap, cp, rfl, -⟩ := Sl.val (Sl.ofOwn ho')
  exact ⟨ap, cp, w', hr, ho2, hg, hat⟩
theorem exec_append {P : Program} {w w' : World} {a : Act} {op : Oper} {s x : Operand} {t : TypeId} {v : Value} (ho : op.op = Op.call { callee := Callee.builtin Builtin.append, args := #[s, x], argTypes := #[t, t] }) {sv xv : Value} (hs : a.eval s = sv) (hx : a.eval x = xv) (hr : (Builtin.append_ #[t, t] op.type #[sv, xv]).run P w = .ok v w') : (execOp a.eval op).run P w = .ok (.value v) w' := by
  unfold execOp
  simp [ho, resolve, invoke, builtin, hs, hx, hr, Result.andThen]
theorem exec_build_tm {w : World} {a : Act} {op : Oper} {x : Operand} {t : Tm} (ho : op.op = .buildSlice 34 1 #[(0, x)]) (hx : a.eval x = .agg (tmA t)) : (execOp a.eval op).run Try.prog w = .ok (.value (.slice (some ⟨w.heap.size, 0, none⟩) 1 1)) (w.alloc (.cells (tmA t) 27)) := by
  obtain ⟨i0, hi, hz0, hz1, hz2⟩ := info_parts' infoTm
  unfold execOp
  have hf : Instr.fill (fun i => some (i * i0.size, i0.size)) ((Array.range (1 * i0.size)).map ((Value.agg #[.int .u64 0, .int .i64 0, .int .i64 0]).cells[· % (Value.agg #[.int .u64 0, .int .i64 0, .int .i64 0]).cells.size]!)) (#[(0, x)].map fun (i, x) => (i, a.eval x)).toList = some (tmA t) := by
    rw [hz1]
    have e := Go.Great.fill_whole (s := 3) (by decide) [Value.agg (tmA t)] ((Array.range (1 * 3)).map ((Value.agg #[.int .u64 0, .int .i64 0, .int .i64 0]).cells[· % (Value.agg #[.int .u64 0, .int .i64 0, .int .i64 0]).cells.size]!)) (fun v hv => by
      have := List.mem_singleton.1 hv
      subst this
      rfl) (by rw [Array.size_map, Array.size_range]; rfl)
    have e2 : (#[(0, x)].map fun (p : Nat × Operand) => (p.1, a.eval p.2)).toList = (([Value.agg (tmA t)].zipIdx 0).map fun x => (x.2, x.1)) := by
      simp [hx]
    refine Eq.trans (congrArg _ e2) (e.trans ?_)
    simp [Value.cells]
  simp only [ho, Sem.run_bind, run_buildSlice w 34 27 1 _ (tmA t) i0 _ Try.underlying34 hi hz0 (by rw [hz1]; decide) (by rw [hz1]; decide) hf, Result.andThen_ok]
  rfl
theorem exec_wlook {X : World} {a : Act} {op : Oper} {m x : Operand} {t : TypeId} {v mv k : Value} (ho : op.op = Op.lookup t m x true) (hm : a.eval m = mv) (hx : a.eval x = k) (hr : (Instr.lookup t mv k true).run Try.prog X = .ok v X) : (execOp a.eval op).run Try.prog X = .ok (.value v) X := by
  unfold execOp
  simp only [ho, hm, hx, Sem.run_bind, hr, Result.andThen_ok, Sem.run_pure]
def neverB (n : Nat) : Bool := decide (n = neverN)
theorem wpList_never {ops : Array Oper} {rest : List Oper} {o : Oper} {a : Act} {w : World} {Q : Exit → Act → World → Prop} (hg : o.guard = none) (x : Operand) (hop : o.op = .binOp .eql 25 x (.const (.int .u64 18446744073709551615)) 25) {n : Nat} (hx : a.eval x = .int .u64 (n : Int))
    (k : wpList Try.prog ops Q rest (a.put o.dst (.bool (neverB n))) w) : wpList Try.prog ops Q (o :: rest) a w := by
  refine wpList_plain hg fun K hK => ?_
  have e : neverB n = decide ((n : Int) = 18446744073709551615) := by
    unfold neverB
    rw [decide_eq_decide]
    unfold neverN
    omega
  rw [e] at k
  have hr : (execOp a.eval o).run Try.prog w = .ok (.value (.bool (decide ((n : Int) = 18446744073709551615)))) w := by
    unfold execOp
    have ec : a.eval (.const (.int .u64 18446744073709551615)) = .int .u64 18446744073709551615 := rfl
    simp only [hop, hx, ec, Sem.run_bind, Sem.run_pure]
    simp [go_sem, BEq.beq]
  unfold Oper.wp
  rw [hr]
  exact hK _ _ k
theorem Heap.snoc {h : List Tm} (hh : Heap h) (t : Tm) : HeapEx (h ++ [t]) h.length := by
  refine ⟨fun j a b h0 hj hp ha hb => ?_, fun j a b h0 hp hi ha hb => ?_⟩
  · have hl := (List.getElem?_eq_some_iff.1 ha).1
    simp at hl
    rw [List.getElem?_append_left (by omega)] at ha hb
    exact hh j a b h0 ha hb
  · have hl := (List.getElem?_eq_some_iff.1 ha).1
    simp at hl
    omega
theorem Cons.snoc {h : List Tm} {f : Int × Int → Option Value} {t : Tm} (c : Cons h f) (hn : ∀ a ∈ h, keyT a ≠ keyT t) : Cons (h ++ [t]) (updK f (keyT t) (.int .i64 (h.length : Int))) := by
  refine ⟨fun i a ha => ?_, fun p hp => ?_⟩
  · unfold updK
    by_cases hi : i < h.length
    · rw [List.getElem?_append_left hi] at ha
      rw [if_neg (hn a (List.mem_of_getElem? ha))]
      exact c.yes i a ha
    · have hl := (List.getElem?_eq_some_iff.1 ha).1
      simp at hl
      obtain rfl : i = h.length := by omega
      rw [List.getElem?_append_right (Nat.le_refl _)] at ha
      simp at ha
      subst ha
      rw [if_pos rfl]
  · unfold updK
    rw [if_neg (fun e => hp t (by simp) e.symm)]
    exact c.no p (fun a ha => hp a (by simp [ha]))
theorem Cons.set {h : List Tm} {f : Int × Int → Option Value} {i : Nat} {a t : Tm} (c : Cons h f) (ha : h[i]? = some a) (hk : keyT a = keyT t) : Cons (h.set i t) (updK f (keyT t) (.int .i64 (i : Int))) := by
  have hi := (List.getElem?_eq_some_iff.1 ha).1
  refine ⟨fun j b hb => ?_, fun p hp => ?_⟩
  · unfold updK
    by_cases hj : i = j
    · subst hj
      rw [List.getElem?_set_self hi] at hb
      cases hb
      rw [if_pos rfl]
    · rw [List.getElem?_set_ne hj] at hb
      rw [if_neg (fun e => hj (c.uniq ha hb (hk.trans e.symm)))]
      exact c.yes j b hb
  · have hpt : p ≠ keyT t := fun e => hp t (List.mem_of_getElem? (List.getElem?_set_self hi)) e.symm
    unfold updK
    rw [if_neg hpt]
    refine c.no p (fun b hb e => ?_)
    obtain ⟨j, hj⟩ := List.getElem?_of_mem hb
    by_cases hij : i = j
    · subst hij
      rw [ha] at hj
      cases hj
      exact hpt (e.symm.trans hk)
    · exact hp b (List.mem_of_getElem? (by rw [List.getElem?_set_ne hij]; exact hj)) e
theorem perm_set {h L : List Tm} {i : Nat} {a t : Tm} (hp : h.Perm L) (hl : QL L) (ha : h[i]? = some a) (hk : keyT a = keyT t) : (h.set i t).Perm (insT t (delT t.c t.k L)) := by
  have h1 := set_perm t ha
  have h2 := del_perm hl.s hl.u (hp.mem_iff.1 (List.mem_of_getElem? ha))
  have e : a.c = t.c ∧ a.k = t.k := by simpa [keyT] using hk
  rw [e.1, e.2] at h2
  have h3 : (a :: h.set i t).Perm (a :: t :: delT t.c t.k L) := (h1.trans (List.Perm.cons t (hp.trans h2.symm))).trans (List.Perm.swap _ _ _)
  exact (h3.cons_inv).trans (insT_perm t _).symm
theorem perm_snoc {h L : List Tm} {t : Tm} (hp : h.Perm L) (hn : ∀ a ∈ L, keyT a ≠ keyT t) : (h ++ [t]).Perm (insT t (delT t.c t.k L)) := by
  rw [delT_none hn]
  exact (List.perm_append_comm.trans (List.Perm.cons t hp)).trans (insT_perm t _).symm
theorem snoc_set (h : List Tm) (t : Tm) : (h ++ [t]).set h.length t = h ++ [t] := by
  rw [List.set_append_right _ _ (Nat.le_refl _)]
  simp
theorem set_nil (w : World) (t : Tm) : Calls Try.prog 11 #[.pointer none, .agg (tmA t)] w fun e w' => e = .returned (.bool false) ∧ Mod (fun _ => False) w w' := by
  obtain ⟨A, hA⟩ : ∃ A, A = tmA t := ⟨_, rfl⟩
  rw [← hA]
  clear hA
  go_enter Try.func11, Try.ntmps11
  go_wp2_with fail
  go_ret
  exact ⟨rfl, (Mod.refl _ _).alloc _⟩
/-- Behind Set. -/
def SetR (w0 w : World) (B qb : Nat) (v : Value) (mb N : Nat) (t : Tm) (L : List Tm) (e : Ending) : Prop :=
  e = .returned (.bool (setT t L).1) ∧ ChgR w0 w B qb v mb N (setT t L).2
theorem set_end {w0 w1 w2 : World} {B qb mb n N : Nat} {v v1 : Value} {h L : List Tm} {t : Tm} {e : Ending} (hd : DownR w1 w2 B qb v1 mb n h e) (hp : h.Perm (setT t L).2) (hl : QL (setT t L).2) (hk : OkAll (setT t L).2) (hn : n ≤ N) (hM : Mod (QB qb v mb) w0 w1) (ho : ∀ k, v1.ownBlock = some k → v.ownBlock = some k ∨ w0.heap.size ≤ k) :
    ChgR w0 w2 B qb v mb N (setT t L).2 := by
  obtain ⟨n2, h2, f2, -, hs, hh, hn2⟩ := hd
  refine ⟨v1, ⟨⟨n2, h2, f2, hs.q, hs.cons, hh, hs.perm.trans hp, by omega⟩, hl, hk⟩, hM.trans' hs.mod (fun k hk hq => ?_), ho⟩
  rcases hq with e | e
  · rcases ho k e with e | e
    · exact Or.inr (Or.inl e)
    · omega
  · exact Or.inr (Or.inr e)
set_option maxHeartbeats 4000000 in
set_option maxRecDepth 10000 in
theorem set_any {w : World} {B qb mb N : Nat} {v : Value} {L : List Tm} (t : Tm) (q : QOk w B qb v mb N L) (hck : okK (keyT t)) (ht : t.t ≤ neverN) (hN : N + 1000 < maxLen) (hB : B ≤ w.heap.size) :
    Calls Try.prog 11 #[.pointer (some ⟨qb, 0, none⟩), .agg (tmA t)] w fun e w' => SetR w w' B qb v mb (N + 1000) t L e := by
  have HK := Lib.hid hck
  have HQ0 := Lib.hid q
  have HT := Lib.hid ht
  have HB := Lib.hid (And.intro hB hN)
  obtain ⟨⟨n, h, f, h1, h2, h3, h4, h5⟩, hl, hk⟩ := q
  have HH : Hid (QM w B qb v mb n h f ∧ Cons h f ∧ Heap h ∧ h.Perm L ∧ n ≤ N ∧ QL L ∧ OkAll L) := Lib.hid ⟨h1, h2, h3, h4, h5, hl, hk⟩
  have hll : h.length ≤ 200 := by rw [h4.length_eq]; exact hl.n
  have HLL := Lib.hid hll
  obtain ⟨V, hV⟩ : ∃ V, (f (keyT t)).getD (.int .i64 0) = V := ⟨_, rfl⟩
  obtain ⟨okb, hok⟩ : ∃ b, (f (keyT t)).isSome = b := ⟨_, rfl⟩
  have HV := Lib.hid hV
  have HO := Lib.hid hok
  obtain ⟨W, hW⟩ : ∃ W, W = w.alloc (.cells (tmA t) 27) := ⟨_, rfl⟩
  have HB3 : Hid (Blk W w.heap.size (tmA t) 27) := Lib.hid (by rw [hW]; exact Blk.new _ _ _)
  have HM3 : Hid (Mod (fun _ => False) w W) := Lib.hid (by rw [hW]; exact (Mod.refl _ _).alloc _)
  have HQM : Hid (QM W B qb v mb n h f) := Lib.hid (h1.still HM3.out)
  obtain ⟨a0, cap, hv, hcap, hcap2, hcap3⟩ := Sl.val (Sl.ofOwn h1.own)
  have HVV := Lib.hid hv
  have HCP := Lib.hid hcap
  have HCQ : Hid (W.cell? ⟨qb, 0, none⟩ = some v ∧ W.cell? ⟨qb, 1, none⟩ = some (.map (some mb))) := Lib.hid ⟨HQM.out.blk.cellAt 0 rfl, HQM.out.blk.cellAt 1 rfl⟩
  have HC3 : Hid (W.cell? ⟨w.heap.size, 0, none⟩ = some (.int .u64 (t.t : Int)) ∧ W.cell? ⟨w.heap.size, 1, none⟩ = some (.int .i64 t.c) ∧ W.cell? ⟨w.heap.size, 2, none⟩ = some (.int .i64 t.k)) := Lib.hid ⟨HB3.out.cellAt 0 rfl, HB3.out.cellAt 1 rfl, HB3.out.cellAt 2 rfl⟩
  obtain ⟨A, hA⟩ : ∃ x, x = tmA t := ⟨_, rfl⟩
  rw [← hA] at hW ⊢
  have HA := Lib.hid hA
  obtain ⟨p3, hp3⟩ : ∃ p, p = w.heap.size := ⟨_, rfl⟩
  rw [← hp3] at HB3 HC3
  have HP3 := Lib.hid hp3
  clear hck ht hN hB h1 h2 h3 h4 h5 hl hk hll hV hok hv hcap hcap2 hcap3 hA
  go_enter Try.func11, Try.ntmps11
  go_upto_region 3 with fail
  rw [← hW, ← hp3]
  clear hW hp3
  (try go_frame)
  refine wp_region_held_drew (S := fun X => Mod (fun _ => False) W X) (by kernel_rfl) (Mod.refl _ _).drew (fun hS => ?_)
  refine' takeH (i := 0) (v := _) (some 10) rfl rfl (by kernel_rfl) (by kernel_rfl) (by kernel_rfl) (fun _ _ _ h => h) (Or.inl ⟨by rfl, fun X hX => ?_⟩) hS ?_
  rotate_left
  · go_simp; exact rfl
  (try go_frame)
  refine' takeH (i := 1) (v := _) (some 11) rfl rfl (by kernel_rfl) (by kernel_rfl) (by kernel_rfl) (fun _ _ _ h => h) (Or.inl ⟨by rfl, fun X hX => ?_⟩) hS ?_
  rotate_left
  · go_simp; exact rfl
  (try go_frame)
  refine' takeH (i := 2) (v := _) (some 12) rfl rfl (by kernel_rfl) (by kernel_rfl) (by kernel_rfl) (fun _ _ _ h => h) (Or.inl ⟨by rfl, fun X hX => ?_⟩) hS ?_
  rotate_left
  · go_simp; exact rfl
  (try go_frame)
  refine' takeH (i := 3) (v := _) (some 13) rfl rfl (by kernel_rfl) (by kernel_rfl) (by kernel_rfl) (fun _ _ _ h => h) (Or.inl ⟨by rfl, fun X hX => ?_⟩) hS ?_
  rotate_left
  · have c := hX.cellAt HCQ.out.2 (fun e => e); go_simp; exact rfl
  (try go_frame)
  refine' takeH (i := 4) (v := _) (some 14) rfl rfl (by kernel_rfl) (by kernel_rfl) (by kernel_rfl) (fun _ _ _ h => h) (Or.inl ⟨by rfl, fun X hX => ?_⟩) hS ?_
  rotate_left
  · go_simp; exact rfl
  (try go_frame)
  refine' takeH (i := 5) (v := _) (some 15) rfl rfl (by kernel_rfl) (by kernel_rfl) (by kernel_rfl) (fun _ _ _ h => h) (Or.inl ⟨by rfl, fun X hX => ?_⟩) hS ?_
  rotate_left
  · have c := hX.cellAt HC3.out.2.1 (fun e => e); go_simp; exact rfl
  (try go_frame)
  refine' takeH (i := 6) (v := _) (some 16) rfl rfl (by kernel_rfl) (by kernel_rfl) (by kernel_rfl) (fun _ _ _ h => h) (Or.inl ⟨by rfl, fun X hX => ?_⟩) hS ?_
  rotate_left
  · go_simp; exact rfl
  (try go_frame)
  refine' takeH (i := 7) (v := _) (some 17) rfl rfl (by kernel_rfl) (by kernel_rfl) (by kernel_rfl) (fun _ _ _ h => h) (Or.inl ⟨by rfl, fun X hX => ?_⟩) hS ?_
  rotate_left
  · have c := hX.cellAt HC3.out.2.2 (fun e => e); go_simp; exact rfl
  (try go_frame)
  refine takeH (i := 8) (v := wK (keyT t)) (some 18) rfl rfl (by kernel_rfl) (by kernel_rfl) (by kernel_rfl) (fun _ _ _ h => h) (Or.inl ⟨by rfl, fun X hX => ?_⟩) hS ?_
  · go_simp; exact rfl
  (try go_frame)
  refine takeH (i := 9) (v := .tuple #[V, .bool okb]) (some 19) rfl rfl (by kernel_rfl) (by kernel_rfl) (by kernel_rfl) (fun _ _ _ h => h) (Or.inl ⟨by rfl, fun X hX => ?_⟩) hS ?_
  · rw [← HV.out, ← HO.out]; exact exec_wlook (m := .tmp 13) (x := .tmp 18) rfl rfl rfl ((HQM.out.map.kept hX (fun e => e)).look (p := keyT t) HK.out Try.underlying49 (zero_int X))
  (try go_frame)
  refine' takeH (i := 10) (v := _) (some 9) rfl rfl (by kernel_rfl) (by kernel_rfl) (by kernel_rfl) (fun _ _ _ h => h) (Or.inl ⟨by rfl, fun X hX => ?_⟩) hS ?_
  rotate_left
  · go_simp; exact rfl
  (try go_frame)
  refine' takeH (i := 11) (v := _) (some 20) rfl rfl (by kernel_rfl) (by kernel_rfl) (by kernel_rfl) (fun _ _ _ h => h) (Or.inl ⟨by rfl, fun X hX => ?_⟩) hS ?_
  rotate_left
  · go_simp; exact rfl
  (try go_frame)
  refine' takeH (i := 12) (v := _) (some 21) rfl rfl (by kernel_rfl) (by kernel_rfl) (by kernel_rfl) (fun _ _ _ h => h) (Or.inl ⟨by rfl, fun X hX => ?_⟩) hS ?_
  rotate_left
  · go_simp; exact rfl
  (try go_frame)
  refine takeH (i := 13) (v := V) (some 5) rfl rfl (by kernel_rfl) (by kernel_rfl) (by kernel_rfl) (fun _ _ _ h => h) (Or.inl ⟨by rfl, fun X hX => ?_⟩) hS ?_
  · go_simp
  (try go_frame)
  refine takeH (i := 14) (v := .bool okb) (some 6) rfl rfl (by kernel_rfl) (by kernel_rfl) (by kernel_rfl) (fun _ _ _ h => h) (Or.inl ⟨by rfl, fun X hX => ?_⟩) hS ?_
  · go_simp
  (try go_frame)
  refine wpAnyH_done (by kernel_rfl) ?_ _
  have HM1 : Hid (Mod (fun _ => False) w W.drew) := Lib.hid (HM3.out.trans hS)
  have HQ1 : Hid (QM W.drew B qb v mb n h f) := Lib.hid (HQM.out.still hS)
  have HQK : Hid (QOk W.drew B qb v mb N L) := Lib.hid (HQ0.out.still HM1.out)
  have HB1 : Hid (Blk W.drew p3 (tmA t) 27) := Lib.hid (hS.blk HB3.out (fun e => e))
  clear hS HB3 HC3 HCQ HM3 HQM
  generalize W.drew = W1 at *
  have c0 : W1.cell? ⟨p3, 0, none⟩ = some (.int .u64 (t.t : Int)) := HB1.out.cellAt 0 rfl
  have c1 : W1.cell? ⟨p3, 1, none⟩ = some (.int .i64 t.c) := HB1.out.cellAt 1 rfl
  have c2 : W1.cell? ⟨p3, 2, none⟩ = some (.int .i64 t.k) := HB1.out.cellAt 2 rfl
  have d0 : W1.cell? ⟨qb, 0, none⟩ = some v := HQ1.out.blk.cellAt 0 rfl
  have hBs : Hid (B ≤ W1.heap.size) := Lib.hid (by have := HM1.out.size; have := HB.out.1; omega)
  obtain ⟨nt, hnt⟩ : ∃ x, x = t.t := ⟨_, rfl⟩
  rw [← hnt] at c0
  have HNT := Lib.hid hnt
  clear hnt
  by_cases hnv : t.t = neverN
  · have hnb : neverB nt = true := by rw [HNT.out, hnv]; rfl
    have HNV := Lib.hid hnv
    clear hnv
    go_wp2_with (first
      | ((with_reducible refine wpList_never ?_ (.tmp 24) ?_ (n := nt) ?_ ?_); (· exact rfl); (· exact rfl); (· exact rfl))
      | (go_at_call 12; refine (cancel_any t.c t.k HQK.out HK.out HB.out.2 hBs.out).mono ?_; rintro e w5 ⟨rfl, hchg⟩; have HC := Lib.hid hchg; clear hchg)
      | fail)
    go_ret
    have e1 : setT t L = (true, delT t.c t.k L) := by unfold setT; rw [if_pos HNV.out]
    obtain ⟨v', hq, hM, ho⟩ := HC.out
    refine ⟨by rw [e1]; rfl, v', by rw [e1]; exact hq, (HM1.out.mono (fun _ _ h => h.elim)).trans hM, fun k hk => ?_⟩
    rcases ho k hk with e | e
    · exact .inl e
    · exact .inr (by have := HM1.out.size; omega)
  · have hnb : neverB nt = false := by rw [HNT.out]; exact decide_eq_false hnv
    have HNV := Lib.hid hnv
    clear hnv
    have HOWN : Hid (∀ k, v.ownBlock = some k → k < w.heap.size) := Lib.hid (fun k hk => (World.ownsRow.lt HH.out.1.own k hk).2)
    have HMB : Hid (mb < w.heap.size ∧ qb < w.heap.size) := Lib.hid ⟨HH.out.1.map.lt, HH.out.1.blk.lt⟩
    have HSR : Hid (okK (keyT t)) := HK
    rw [HVV.out] at d0
    rcases key_look HH.out.2.1 HH.out.2.2.2.1 (keyT t) with ⟨hh, hf⟩ | ⟨i, a, hh, hf, hi, hkey, hin⟩
    · have hV : V = .int .i64 0 := by rw [← HV.out, hf]; rfl
      have hok : okb = false := by rw [← HO.out, hf]; rfl
      subst hV
      subst hok
      have HHK : Hid (hasK t.c t.k L = false) := Lib.hid hh
      clear hh hf
      by_cases h200 : h.length = 200
      · have hb : ((h.length : Int) == 200) = true := by simp [h200]
        have H200 := Lib.hid h200
        clear h200
        go_wp2_with (first
          | ((with_reducible refine wpList_never ?_ (.tmp 24) ?_ (n := nt) ?_ ?_); (· exact rfl); (· exact rfl); (· exact rfl))
          | fail)
        go_ret
        have e1 : setT t L = (false, L) := by unfold setT; rw [if_neg HNV.out, if_pos ⟨HHK.out, by rw [← HH.out.2.2.2.1.length_eq]; exact H200.out⟩]
        exact ⟨by rw [e1]; rfl, v, by rw [e1]; exact HQK.out.more (by omega), HM1.out.mono (fun _ _ h => h.elim), fun _ h => .inl h⟩
      · have hb : ((h.length : Int) == 200) = false := by simp; omega
        have H200 := Lib.hid h200
        clear h200
        go_upto_region 11 with (first
          | ((with_reducible refine wpList_never ?_ (.tmp 24) ?_ (n := nt) ?_ ?_); (· exact rfl); (· exact rfl); (· exact rfl))
          | fail)
        clear c0 c1 c2 d0 hb
        (try go_frame)
        refine wp_region_held_drew (S := fun X => Blk X p3 (tmA t) 27) (by kernel_rfl) HB1.out (fun hS => ?_)
        refine' takeH (i := 0) (v := _) (some 51) rfl rfl (by kernel_rfl) (by kernel_rfl) (by kernel_rfl) (fun _ _ _ h => h) (Or.inl ⟨by rfl, fun X hX => ?_⟩) hS ?_
        rotate_left
        · go_simp; exact rfl
        (try go_frame)
        refine' takeH (i := 1) (v := _) (some 52) rfl rfl (by kernel_rfl) (by kernel_rfl) (by kernel_rfl) (fun _ _ _ h => h) (Or.inl ⟨by rfl, fun X hX => ?_⟩) hS ?_
        rotate_left
        · go_simp; exact rfl
        (try go_frame)
        refine' takeH (i := 2) (v := _) (some 53) rfl rfl (by kernel_rfl) (by kernel_rfl) (by kernel_rfl) (fun _ _ _ h => h) (Or.inl ⟨by rfl, fun X hX => ?_⟩) hS ?_
        rotate_left
        · go_simp; exact rfl
        (try go_frame)
        refine' takeH (i := 3) (v := _) (some 54) rfl rfl (by kernel_rfl) (by kernel_rfl) (by kernel_rfl) (fun _ _ _ h => h) (Or.inl ⟨by rfl, fun X hX => ?_⟩) hS ?_
        rotate_left
        · go_simp; exact rfl
        (try go_frame)
        refine takeH (i := 5) (v := .agg (tmA t)) (some 56) rfl rfl (by kernel_rfl) (by kernel_rfl) (by kernel_rfl) (fun _ _ _ h => h) (Or.inl ⟨by rfl, fun X hX => ?_⟩) hS ?_
        · exact exec_load' (x := .tmp 3) rfl rfl (tm_load hX.whole)
        (try go_frame)
        have hM0 : Mod (fun _ => False) W1 W1.drew := (Mod.refl _ _).drew
        generalize W1.drew = W0 at *
        have cc : W0.cell? ⟨qb, 0, none⟩ = some (.slice a0 h.length cap) := by rw [← HVV.out]; exact (HQ1.out.still hM0).blk.cellAt 0 rfl
        have cc2 : (W0.alloc (.cells (tmA t) 27)).cell? ⟨qb, 0, none⟩ = some (.slice a0 h.length cap) := by rw [← HVV.out]; exact (HQ1.out.still (hM0.alloc _)).blk.cellAt 0 rfl
        refine wpAnyH_ready (rs := [4, 6]) (by kernel_rfl) (by simp) ?_
        refine (AllReadyH.cons (o := ⟨some 55, _, _, _, _, none⟩) rfl (fun K hK => ?_) (AllReadyH.cons (o := ⟨some 57, _, _, _, _, none⟩) rfl (fun K hK => ?_) AllReadyH.nil))
        go_simp
        rw [← HVV.out]
        refine hK.out _ _ hS (fun hS => ?_)
        clear hK K cc cc2
        (try go_frame)
        refine wpAnyH_ready (rs := [6]) (by kernel_rfl) (by simp) ?_
        refine (AllReadyH.cons (o := ⟨some 57, _, _, _, _, none⟩) rfl (fun K hK => ?_) AllReadyH.nil)
        refine step_run rfl (exec_build_tm (t := t) (x := .tmp 56) rfl rfl) ?_
        refine hK.out _ _ (hS.alloc _) (fun hS => ?_)
        clear hK K
        (try go_frame)
        rotate_left
        refine step_run rfl (exec_build_tm (t := t) (x := .tmp 56) rfl rfl) ?_
        refine hK.out _ _ (hS.alloc _) (fun hS => ?_)
        clear hK K
        (try go_frame)
        refine wpAnyH_ready (rs := [4]) (by kernel_rfl) (by simp) ?_
        refine (AllReadyH.cons (o := ⟨some 55, _, _, _, _, none⟩) rfl (fun K hK => ?_) AllReadyH.nil)
        go_simp
        rw [← HVV.out]
        refine hK.out _ _ hS (fun hS => ?_)
        clear hK K cc cc2
        (try go_frame)
        all_goals
          have hM2 : Mod (fun _ => False) W1 (W0.alloc (.cells (tmA t) 27)) := hM0.alloc _
          have hB2 : Blk (W0.alloc (.cells (tmA t) 27)) W0.heap.size (tmA t) 27 := Blk.new _ _ _
          generalize W0.alloc (.cells (tmA t) 27) = W2 at *
          generalize W0.heap.size = nb at *
          have HQ2 := Lib.hid (HQ1.out.still hM2)
          have HM2 := Lib.hid (HM1.out.trans hM2)
          clear hM2
          have hb2 : B ≤ W2.heap.size := by have := HM2.out.size; have := HB.out.1; omega
          obtain ⟨ap, cp, w8, hr8, ho8, hg8, hat8⟩ := OwnT.append HQ2.out.own HLL.out hb2 hB2 _
          have hM8 : Mod (fun k => v.ownBlock = some k) W2 w8 := (Mod.refl (fun k => v.ownBlock = some k) _).grown hg8 (fun k hk _ => hk)
          refine wpAnyH_ready (rs := [7]) (by kernel_rfl) (by simp) ?_
          refine (AllReadyH.cons (o := ⟨some 58, _, _, _, _, none⟩) rfl (fun K hK => ?_) AllReadyH.nil)
          refine step_run rfl (exec_append (s := .tmp 55) (x := .tmp 57) rfl rfl rfl hr8) ?_
          refine hK.out _ _ (hM8.blk hS (fun e => by have := HOWN.out _ e; have := HP3.out; omega)) (fun hS => ?_)
          clear hK K hr8 hg8 hB2 hb2
          (try go_frame)
          refine' takeH (i := 8) (v := _) (some 59) rfl rfl (by kernel_rfl) (by kernel_rfl) (by kernel_rfl) (fun _ _ _ h => h) (Or.inl ⟨by rfl, fun X hX => ?_⟩) hS ?_
          rotate_left
          · go_simp; exact rfl
          (try go_frame)
          refine' takeH (i := 9) (v := _) (some 60) rfl rfl (by kernel_rfl) (by kernel_rfl) (by kernel_rfl) (fun _ _ _ h => h) (Or.inl ⟨by rfl, fun X hX => ?_⟩) hS ?_
          rotate_left
          · go_simp; exact rfl
          (try go_frame)
          have hB8 : Blk w8 qb #[v, .map (some mb)] 51 := hM8.blk HQ2.out.blk HQ2.out.vq
          have cc := hB8.cellAt 0 rfl
          have ff := hB8.free 0
          obtain ⟨v', hv'⟩ : ∃ v', v' = Value.slice ap (h.length + 1) cp := ⟨_, rfl⟩
          have hqp : ¬ p3 = qb := by have := HMB.out; have := HP3.out; omega
          refine wpAnyH_ready (rs := [10]) (by kernel_rfl) (by simp) ?_
          refine (AllReadyH.cons (o := ⟨none, _, _, _, _, none⟩) rfl (fun K hK => ?_) AllReadyH.nil)
          go_simp
          rw [← hv'] at ho8 hat8 ⊢
          refine hK.out _ _ (hS.setOther hqp _) (fun hS => ?_)
          clear hK K cc ff
          (try go_frame)
          refine wpAnyH_done (by kernel_rfl) ?_ _
          have hm9 : Mod (fun k => k = qb) w8 (w8.setCell ⟨qb, 0, none⟩ v') := (Mod.refl (fun k => k = qb) _).setCell (p := ⟨qb, 0, none⟩) (fun _ => rfl) _
          have hnq : ¬ v'.ownBlock = some qb := by
            rcases hat8 with e | e
            · rw [e]; exact HQ2.out.vq
            · rw [e]; intro e2; have e3 := Option.some.inj e2; have := HQ2.out.blk.lt; omega
          have hq9 : QM (w8.setCell ⟨qb, 0, none⟩ v') B qb v' mb n (h ++ [t]) f :=
            ⟨HQ2.out.bq, HQ2.out.bm, hB8.set 0 v', ho8.kept hm9 (fun k hk e => hnq (by rw [← e]; exact hk)), (HQ2.out.map.kept hM8 HQ2.out.vm).kept hm9 HQ2.out.mq⟩
          have hQB : Mod (QB qb v mb) w (w8.setCell ⟨qb, 0, none⟩ v') := ((HM2.out.mono (fun _ _ h => h.elim)).trans (hM8.mono (fun k _ e => Or.inr (Or.inl e)))).trans (hm9.mono (fun k _ e => Or.inl e))
          have hfr : ∀ k, v'.ownBlock = some k → v.ownBlock = some k ∨ w.heap.size ≤ k := by
            intro k hk
            rcases hat8 with e | e
            · exact .inl (by rw [← e]; exact hk)
            · rw [e] at hk
              have e3 := Option.some.inj hk
              exact .inr (by have := HM2.out.size; omega)
          clear hm9 hnq hB8 hM8 hat8 ho8 hv' hqp
          have HBX := Lib.hid hS
          have HQB := Lib.hid (And.intro hQB hfr)
          have hlk : (h ++ [t]).length = h.length + 1 := by simp
          have HQX : Hid (QM (w8.setCell ⟨qb, 0, none⟩ v') B qb v' mb n (h ++ [t]) f ∧ h.length < (h ++ [t]).length ∧ n < maxLen) := Lib.hid ⟨hq9, by omega, by have := HB.out.2; have := HH.out.2.2.2.2.1; omega⟩
          have hno : ∀ a ∈ L, keyT a ≠ keyT t := has_no.1 HHK.out
          have HCX : Hid (Cons ((h ++ [t]).set h.length t) (updK f (keyT t) (.int .i64 (h.length : Int))) ∧ h.length < ((h ++ [t]).set h.length t).length ∧ ((h ++ [t]).set h.length t).length ≤ 200 ∧ HeapEx ((h ++ [t]).set h.length t) h.length ∧ n + 1 + 900 < maxLen ∧ OkAll ((h ++ [t]).set h.length t)) := by
            refine Lib.hid ?_
            rw [snoc_set]
            refine ⟨HH.out.2.1.snoc (fun a ha => hno a (HH.out.2.2.2.1.mem_iff.1 ha)), by omega, by have := HLL.out; have := H200.out; omega, HH.out.2.2.1.snoc t, by have := HB.out.2; have := HH.out.2.2.2.2.1; omega, fun a ha => ?_⟩
            rcases List.mem_append.1 ha with e | e
            · exact HH.out.2.2.2.2.2.2 a (HH.out.2.2.2.1.mem_iff.1 e)
            · rw [List.mem_singleton.1 e]; exact HK.out
          have HE : Hid (setT t L = (true, insT t (delT t.c t.k L)) ∧ ((h ++ [t]).set h.length t).Perm (insT t (delT t.c t.k L))) := by
            refine Lib.hid ⟨?_, by rw [snoc_set]; exact perm_snoc HH.out.2.2.2.1 hno⟩
            unfold setT
            rw [if_neg HNV.out, if_neg (fun e => H200.out (by rw [HH.out.2.2.2.1.length_eq]; exact e.2))]
          clear hq9 hQB hfr hlk hno hS
          generalize w8.setCell ⟨qb, 0, none⟩ v' = w9 at *
          go_wp2_with (first
            | ((with_reducible refine wpList_load_blk ?_ 27 (.tmp 3) ?_ p3 ?_ (tmA t) 27 _ HBX.out Try.underlying27 ?_ (size_tm t) ?_); (· exact rfl); (· exact rfl); (· exact rfl); (· exact rfl))
            | (go_at_call 27; refine (put_any t HQX.out.1 HQX.out.2.1 HQX.out.2.2 HK.out).mono ?_; rintro e w6 ⟨rfl, hq6, hM6⟩; have HQ6 := Lib.hid (And.intro hq6 hM6); clear hq6 hM6)
            | (go_at_call 28; refine (settle_any HQ6.out.1 HCX.out.1 HCX.out.2.1 HCX.out.2.2.1 HCX.out.2.2.2.1 HCX.out.2.2.2.2.1 HCX.out.2.2.2.2.2).mono ?_; rintro e w7 ⟨n2, h2, f2, rfl, hd7⟩; have HD7 := Lib.hid (show DownR _ w7 B qb _ mb _ _ (.returned (.tuple #[])) from ⟨n2, h2, f2, rfl, hd7⟩); clear hd7)
            | fail)
          go_ret
          have hset := HE.out.1
          have hql : QL (setT t L).2 := HH.out.2.2.2.2.2.1.set t HT.out
          have hok2 : OkAll (setT t L).2 := by
            rw [hset]
            intro a ha
            rcases List.mem_cons.1 ((insT_perm t _).mem_iff.1 ha) with e | e
            · rw [e]; exact HK.out
            · exact HH.out.2.2.2.2.2.2 a (delT_mem.1 e).1
          refine ⟨by rw [hset]; rfl, set_end HD7.out (by rw [hset]; exact HE.out.2) hql hok2 (by have := HH.out.2.2.2.2.1; omega) (HQB.out.1.trans' HQ6.out.2 (fun k hk e => ?_)) HQB.out.2⟩
          rcases e with e | e
          · rcases HQB.out.2 k e with e | e
            · exact Or.inr (Or.inl e)
            · omega
          · exact Or.inr (Or.inr e)
    · obtain ⟨g, cap2, hv2, -, -, -⟩ := HH.out.1.own.at hi
      have hV : V = .int .i64 (i : Int) := by rw [← HV.out, hf]; rfl
      have hok : okb = true := by rw [← HO.out, hf]; rfl
      subst hV
      subst hok
      have hil := (List.getElem?_eq_some_iff.1 hi).1
      have HBX := HB1
      have HQB : Hid (Mod (QB qb v mb) w W1 ∧ ∀ k, v.ownBlock = some k → v.ownBlock = some k ∨ w.heap.size ≤ k) := Lib.hid ⟨HM1.out.mono (fun _ _ h => h.elim), fun _ h => .inl h⟩
      have HQX : Hid (QM W1 B qb v mb n h f ∧ i < h.length ∧ n < maxLen) := Lib.hid ⟨HQ1.out, hil, by have := HB.out.2; have := HH.out.2.2.2.2.1; omega⟩
      have HCX : Hid (Cons (h.set i t) (updK f (keyT t) (.int .i64 (i : Int))) ∧ i < (h.set i t).length ∧ (h.set i t).length ≤ 200 ∧ HeapEx (h.set i t) i ∧ n + 1 + 900 < maxLen ∧ OkAll (h.set i t)) := by
        refine Lib.hid ⟨HH.out.2.1.set hi hkey, by simpa using hil, by simpa using HLL.out, (HH.out.2.2.1.ex i).set t, by have := HB.out.2; have := HH.out.2.2.2.2.1; omega, fun b hb => ?_⟩
        rcases List.mem_or_eq_of_mem_set hb with e | e
        · exact HH.out.2.2.2.2.2.2 b (HH.out.2.2.2.1.mem_iff.1 e)
        · rw [e]; exact HK.out
      have HE : Hid (setT t L = (true, insT t (delT t.c t.k L)) ∧ (h.set i t).Perm (insT t (delT t.c t.k L))) := by
        refine Lib.hid ⟨?_, perm_set HH.out.2.2.2.1 HH.out.2.2.2.2.2.1 hi hkey⟩
        unfold setT
        rw [if_neg HNV.out, if_neg (fun e => by rw [show hasK t.c t.k L = true from hh] at e; cases e.1)]
      clear hh hf hi hkey hin hil hv2 c1 c2
      go_wp2_with (first
        | ((with_reducible refine wpList_never ?_ (.tmp 24) ?_ (n := nt) ?_ ?_); (· exact rfl); (· exact rfl); (· exact rfl))
        | ((with_reducible refine wpList_load_blk ?_ 27 (.tmp 3) ?_ p3 ?_ (tmA t) 27 _ HBX.out Try.underlying27 ?_ (size_tm t) ?_); (· exact rfl); (· exact rfl); (· exact rfl); (· exact rfl))
        | (go_at_call 27; refine (put_any t HQX.out.1 HQX.out.2.1 HQX.out.2.2 HK.out).mono ?_; rintro e w6 ⟨rfl, hq6, hM6⟩; have HQ6 := Lib.hid (And.intro hq6 hM6); clear hq6 hM6)
        | (go_at_call 28; refine (settle_any HQ6.out.1 HCX.out.1 HCX.out.2.1 HCX.out.2.2.1 HCX.out.2.2.2.1 HCX.out.2.2.2.2.1 HCX.out.2.2.2.2.2).mono ?_; rintro e w7 ⟨n2, h2, f2, rfl, hd7⟩; have HD7 := Lib.hid (show DownR _ w7 B qb _ mb _ _ (.returned (.tuple #[])) from ⟨n2, h2, f2, rfl, hd7⟩); clear hd7)
        | fail)
      go_ret
      have hset := HE.out.1
      have hql : QL (setT t L).2 := HH.out.2.2.2.2.2.1.set t HT.out
      have hok2 : OkAll (setT t L).2 := by
        rw [hset]
        intro a ha
        rcases List.mem_cons.1 ((insT_perm t _).mem_iff.1 ha) with e | e
        · rw [e]; exact HK.out
        · exact HH.out.2.2.2.2.2.2 a (delT_mem.1 e).1
      refine ⟨by rw [hset]; rfl, set_end HD7.out (by rw [hset]; exact HE.out.2) hql hok2 (by have := HH.out.2.2.2.2.1; omega) (HQB.out.1.trans' HQ6.out.2 (fun k hk e => ?_)) HQB.out.2⟩
      rcases e with e | e
      · rcases HQB.out.2 k e with e | e
        · exact Or.inr (Or.inl e)
        · omega
      · exact Or.inr (Or.inr e)
end Go.Proofs.Ytodcadcapmhgfaa
