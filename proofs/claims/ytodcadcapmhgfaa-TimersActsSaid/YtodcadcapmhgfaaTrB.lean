/- The document's queue: which timer comes ahead; Due. -/
import Derived.Test.YtodcadcapmhgfaaTrA
namespace Go.Proofs.Ytodcadcapmhgfaa
open Go.RowKit

set_option maxHeartbeats 4000000 in
set_option maxRecDepth 10000 in
theorem rahead_any (a b : Tm) (w : World) : Calls Try.prog 32 #[.agg (tmA a), .agg (tmA b)] w fun e w' => e = .returned (.bool (ahd a b)) ∧ Mod (fun _ => False) w w' := by
  have HB : Hid (Blk ((w.alloc (.cells (tmA a) 27)).alloc (.cells (tmA b) 27)) w.heap.size (tmA a) 27 ∧ Blk ((w.alloc (.cells (tmA a) 27)).alloc (.cells (tmA b) 27)) (w.heap.size + 1) (tmA b) 27) := by
    refine ⟨(Blk.new _ _ _).alloc _, ?_⟩
    have h := Blk.new (w.alloc (.cells (tmA a) 27)) (tmA b) 27
    rwa [show (w.alloc (.cells (tmA a) 27)).heap.size = w.heap.size + 1 by simp] at h
  have HM : Hid (Mod (fun _ => False) w ((w.alloc (.cells (tmA a) 27)).alloc (.cells (tmA b) 27))) := ((Mod.refl _ _).alloc _).alloc _
  obtain ⟨A, hA⟩ : ∃ x, x = tmA a := ⟨_, rfl⟩
  obtain ⟨B, hB⟩ : ∃ x, x = tmA b := ⟨_, rfl⟩
  rw [← hA, ← hB] at HB HM ⊢
  have HA := Lib.hid hA
  have HBB := Lib.hid hB
  clear hA hB
  obtain ⟨R, hR⟩ : ∃ R, R = ahd a b := ⟨_, rfl⟩
  rw [← hR]
  have h1 : a.t ≠ b.t → R = decide (a.t < b.t) := by
    intro h
    rw [hR, Bool.eq_iff_iff, ahd_iff, decide_eq_true_eq]
    omega
  have h2 : a.t = b.t → a.c ≠ b.c → R = decide (a.c < b.c) := by
    intro h h'
    rw [hR, Bool.eq_iff_iff, ahd_iff, decide_eq_true_eq]
    omega
  have h3 : a.t = b.t → a.c = b.c → R = decide (a.k < b.k) := by
    intro h h'
    rw [hR, Bool.eq_iff_iff, ahd_iff, decide_eq_true_eq]
    omega
  clear hR
  go_enter Try.func32, Try.ntmps32
  go_upto_region 1 with fail
  generalize ((w.alloc (.cells A 27)).alloc (.cells B 27)) = W at *
  rw [HA.out, HBB.out] at HB
  have a0 : W.cell? ⟨w.heap.size, 0, none⟩ = some (.int .u64 (a.t : Int)) := HB.out.1.cellAt 0 rfl
  have a1 : W.cell? ⟨w.heap.size, 1, none⟩ = some (.int .i64 a.c) := HB.out.1.cellAt 1 rfl
  have a2 : W.cell? ⟨w.heap.size, 2, none⟩ = some (.int .i64 a.k) := HB.out.1.cellAt 2 rfl
  have b0 : W.cell? ⟨w.heap.size + 1, 0, none⟩ = some (.int .u64 (b.t : Int)) := HB.out.2.cellAt 0 rfl
  have b1 : W.cell? ⟨w.heap.size + 1, 1, none⟩ = some (.int .i64 b.c) := HB.out.2.cellAt 1 rfl
  have b2 : W.cell? ⟨w.heap.size + 1, 2, none⟩ = some (.int .i64 b.k) := HB.out.2.cellAt 2 rfl
  by_cases e1 : a.t = b.t
  · have q1 : ((a.t : Int) != (b.t : Int)) = false := by simp [e1]
    by_cases e2 : a.c = b.c
    · have q2 : (a.c != b.c) = false := by simp [e2]
      have HR := Lib.hid (h3 e1 e2)
      clear h1 h2 h3 e1 e2
      go_wp2_with fail
      go_ret
      exact ⟨by rw [HR.out]; rfl, HM.out⟩
    · have q2 : (a.c != b.c) = true := by simp [e2]
      have HR := Lib.hid (h2 e1 e2)
      clear h1 h2 h3 e1 e2
      go_wp2_with fail
      go_ret
      exact ⟨by rw [HR.out]; rfl, HM.out⟩
  · have q1 : ((a.t : Int) != (b.t : Int)) = true := by simp; omega
    have HR := Lib.hid (h1 e1)
    clear h1 h2 h3 e1
    go_wp2_with fail
    go_ret
    exact ⟨by rw [HR.out]; rfl, HM.out⟩
theorem wpList_slice_l {ops : Array Oper} {rest : List Oper} {op : Oper} {a : Act} {w : World} {Q : Exit → Act → World → Prop} (hg : op.guard = none) (x l : Operand) (ho : op.op = .slice 34 x (some l) none none) (p : Option Addr) (n cap k : Nat) (hx : a.eval x = .slice p n cap) (hl : a.eval l = .int .i64 (k : Int)) (hk : k ≤ n)
    (h : ∀ a' n' c', Value.slice a' n' c' = sliced p k n cap 3 → wpList Try.prog ops Q rest (a.put op.dst (.slice a' n' c')) w) : wpList Try.prog ops Q (op :: rest) a w := by
  refine wpList_plain hg fun K hK => ?_
  have hr : (execOp a.eval op).run Try.prog w = .ok (.value (sliced p k n cap 3)) w := by
    unfold execOp
    have e := run_slice_l (P := Try.prog) w 34 p n cap Try.underlying34 .i64 (k : Int) (by omega) (by omega)
    have e1 := run_sliceAt_slice (P := Try.prog) w 34 (.slice p n cap) (some (.int .i64 (k : Int))) none none Try.underlying34
    have es : (Go.sizeOf (Program.elem Try.prog 34)).run Try.prog w = .ok 3 w := by kernel_rfl
    rw [es] at e
    simp only [ho, hx, Option.map_some, Option.map_none, hl, Sem.run_bind, e1, e, Result.andThen_ok, Sem.run_pure, Int.toNat_natCast]
  unfold Oper.wp
  rw [hr]
  exact hK _ _ (h _ _ _ rfl)
set_option maxHeartbeats 4000000 in
theorem rdue_any {B : Nat} {w : World} {rb : Nat} {rv : Value} {L : List Tm} (now : Nat) (q : RQ B w rb rv L) :
    Calls Try.prog 22 #[.pointer (some ⟨rb, 0, none⟩), .int .u64 (now : Int)] w fun e w' => e = .returned (.tuple #[.agg (tmA ((dueT now L).1.getD tm0)), .bool (dueT now L).1.isSome]) ∧ RC B w w' rb rv L (dueT now L).2 := by
  have hM4 : Mod (fun _ => False) w (w.alloc (.cells #[.int .u64 0, .int .i64 0, .int .i64 0] 27)) := (Mod.refl _ _).alloc _
  have HM4 := Lib.hid hM4
  have HQ := Lib.hid (q.still hM4)
  have HQ0 := Lib.hid q
  have HB4 : Hid (Blk (w.alloc (.cells #[.int .u64 0, .int .i64 0, .int .i64 0] 27)) w.heap.size (tmA tm0) 27) := Lib.hid (Blk.new _ _ _)
  clear hM4
  obtain ⟨W, hW⟩ : ∃ W, W = w.alloc (.cells #[.int .u64 0, .int .i64 0, .int .i64 0] 27) := ⟨_, rfl⟩
  rw [← hW] at HM4 HQ HB4
  obtain ⟨p4, hp4⟩ : ∃ p, p = w.heap.size := ⟨_, rfl⟩
  rw [← hp4] at HB4
  have HP4 := Lib.hid hp4
  have hend : ∀ (w11 : World), Mod (fun k => k = p4) W w11 → RC B w w11 rb rv L L := by
    intro w11 hM
    refine ⟨rv, HQ.out.kept hM (fun k hk e => by have := (HQ0.out.lt k hk).2; have := HP4.out; omega), fun k hk => .inl hk, ?_⟩
    exact (HM4.out.mono (T := fun k => k = rb) (fun _ _ h => h.elim)).trans' hM (fun k hk e => by have := HP4.out; omega)
  have HEND := Lib.hid hend
  clear hend
  obtain ⟨a, cap, rfl, hcap, -⟩ := q.val.val
  have c0 : W.cell? ⟨rb, 0, none⟩ = some (.slice a L.length cap) := HQ.out.blk.cellAt 0 rfl
  cases L with
  | nil =>
    clear hcap q
    go_enter Try.func22, Try.ntmps22
    go_upto_region 1 with fail
    rw [← hW, ← hp4]
    clear hW hp4
    go_wp2_with (first
      | ((with_reducible refine wpList_store_blk ?_ 27 (.tmp 4) (.tmp 24) ?_ p4 ?_ _ (tmA tm0) ?_ 27 HB4.out (size_tm tm0) ?_ (tmA_one tm0) ?_); (· exact rfl); (· exact rfl); (· exact rfl); (· exact rfl); (· exact rfl); intro w11 hB11 hM11; have H11 := Lib.hid (And.intro hB11 hM11); clear hB11 hM11)
      | fail)
    refine bodyPost_ret (v := .tuple #[.agg (tmA tm0), .bool false]) ?_ rfl ?_
    · exact results_cell_tmp (t := 4) (u := 5) (b := p4) rfl _ rfl (blk_loadVar H11.out.1 Try.underlying27 rfl (size_tm tm0))
    exact ⟨rfl, HEND.out _ H11.out.2⟩
  | cons x L =>
    obtain ⟨b, off, cap2, hv, hr⟩ := HQ.out.val.at (i := 0) (t := x) rfl
    simp only [Value.slice.injEq] at hv
    obtain ⟨rfl, -, rfl⟩ := hv
    have c1 : W.cell? ⟨b, off, none⟩ = some (.int .u64 (x.t : Int)) := by simpa using hr 0 _ rfl
    have HR : Hid (W.rangeAt b off (tmL x)) := Lib.hid (by simpa using hr)
    obtain ⟨m, hm⟩ : ∃ m, m = (x :: L).length := ⟨_, rfl⟩
    rw [← hm] at c0 hcap HQ HQ0
    have HMM := Lib.hid hm
    have m0 : (0 : Int) < (m : Int) := by rw [hm]; simp
    have m1 : ((m : Int) == 0) = false := by simp; omega
    have HM0 : Hid (1 ≤ m) := Lib.hid (by omega)
    clear q hr hm hcap
    obtain ⟨xt, hxt⟩ : ∃ z, z = x.t := ⟨_, rfl⟩
    rw [← hxt] at c1
    by_cases hn : now < x.t
    · have q2 : decide ((now : Int) < (xt : Int)) = true := by simp; omega
      have q3 : decide (now < xt) = true := by simp; omega
      have HE : Hid (dueT now (x :: L) = (none, x :: L)) := Lib.hid (by rw [due_cons, if_pos hn])
      clear hn hxt
      go_enter Try.func22, Try.ntmps22
      go_upto_region 1 with fail
      rw [← hW, ← hp4]
      clear hW hp4
      go_wp2_with (first
        | ((with_reducible refine wpList_store_blk ?_ 27 (.tmp 4) (.tmp 24) ?_ p4 ?_ _ (tmA tm0) ?_ 27 HB4.out (size_tm tm0) ?_ (tmA_one tm0) ?_); (· exact rfl); (· exact rfl); (· exact rfl); (· exact rfl); (· exact rfl); intro w11 hB11 hM11; have H11 := Lib.hid (And.intro hB11 hM11); clear hB11 hM11)
        | fail)
      refine bodyPost_ret (v := .tuple #[.agg (tmA tm0), .bool false]) ?_ rfl ?_
      · exact results_cell_tmp (t := 4) (u := 5) (b := p4) rfl _ rfl (blk_loadVar H11.out.1 Try.underlying27 rfl (size_tm tm0))
      rw [HE.out]
      exact ⟨rfl, HEND.out _ H11.out.2⟩
    · have q2 : decide ((now : Int) < (xt : Int)) = false := by simp; omega
      have q3 : decide (now < xt) = false := by simp; omega
      have HE : Hid (dueT now (x :: L) = (some x, L)) := Lib.hid (by rw [due_cons, if_neg hn])
      have HB6 : Hid (Blk (W.alloc (.cells #[.int .u64 0, .int .i64 0, .int .i64 0] 27)) W.heap.size #[.int .u64 0, .int .i64 0, .int .i64 0] 27) := Lib.hid (Blk.new _ _ _)
      have HQA := Lib.hid (HQ.out.still ((Mod.refl _ _).alloc (.cells #[.int .u64 0, .int .i64 0, .int .i64 0] 27)))
      have HN6 : Hid (∀ k, RF rb (.slice (some ⟨b, off, none⟩) m cap) (x :: L) k → ¬ k = W.heap.size) := Lib.hid (fun k hk e => by have := (HQ.out.lt k hk).2; omega)
      clear hn hxt
      go_enter Try.func22, Try.ntmps22
      go_upto_region 1 with fail
      rw [← hW, ← hp4]
      clear hW hp4
      go_upto_region 4 with (first
        | ((with_reducible refine wpList_load_tm ?_ (.tmp 29) ?_ b off ?_ x HR.out ?_); (· exact rfl); (· exact rfl); (· exact rfl))
        | ((with_reducible refine wpList_store_blk ?_ 27 (.tmp 6) (.tmp 30) ?_ W.heap.size ?_ _ (tmA x) ?_ 27 HB6.out (size_tm x) ?_ (tmA_one x) ?_); (· exact rfl); (· exact rfl); (· exact rfl); (· exact rfl); (· exact rfl); intro w6 hB6 hM6; have H6 := Lib.hid (And.intro hB6 hM6); have HQ6 := Lib.hid (HQA.out.kept hM6 HN6.out); have c6 : w6.cell? ⟨rb, 0, none⟩ = some (.slice (some ⟨b, off, none⟩) m cap) := HQ6.out.blk.cellAt 0 rfl; have f6 : w6.frozen? ⟨rb, 0, none⟩ = false := HQ6.out.blk.free 0; clear hB6 hM6)
        | fail)
      go_upto_region 5 with (first
        | ((with_reducible refine wpList_slice_l ?_ (.tmp 35) (.const (.int .i64 1)) ?_ (some ⟨b, off, none⟩) m cap 1 ?_ ?_ HM0.out ?_); (· exact rfl); (· exact rfl); (· exact rfl); (· exact rfl); intro a' n' c' hrv; have HRV := Lib.hid hrv; clear hrv)
        | fail)
      have hrb : rb < w.heap.size := (HQ0.out.lt rb (.inl rfl)).2
      have hWs : w.heap.size ≤ W.heap.size := HM4.out.size
      have hM6W : Mod (fun _ => False) W w6 := ((Mod.refl (fun _ => False) W).alloc _).trans' H6.out.2 (fun k hk e => by omega)
      have hM7 : Mod (fun k => k = rb) w (w6.setCell ⟨rb, 0, none⟩ (.slice a' n' c')) := (((HM4.out.trans hM6W).mono (T := fun k => k = rb) (fun _ _ h => h.elim))).setCell (p := ⟨rb, 0, none⟩) (fun _ => rfl) _
      have h4 : Blk (w6.setCell ⟨rb, 0, none⟩ (.slice a' n' c')) p4 (tmA tm0) 27 := (hM6W.blk HB4.out (fun e => e)).setOther (a := ⟨rb, 0, none⟩) (fun e => by have e' : p4 = rb := e; have := HP4.out; omega) _
      have h6 : Blk (w6.setCell ⟨rb, 0, none⟩ (.slice a' n' c')) W.heap.size (tmA x) 27 := H6.out.1.setOther (a := ⟨rb, 0, none⟩) (fun e => by have e' : W.heap.size = rb := e; omega) _
      have hq7 : RQ B (w6.setCell ⟨rb, 0, none⟩ (.slice a' n' c')) rb (.slice a' n' c') L := by
        have q6 := HQ6.out
        refine ⟨q6.b, q6.blk.set 0 (.slice a' n' c'), ?_, ?_⟩
        · have e := TmV.drop q6.val HMM.out HM0.out
          rw [← HRV.out] at e
          refine ((Mod.refl (fun k => k = rb) _).setCell (p := ⟨rb, 0, none⟩) (fun _ => rfl) _).sl e (fun hx g hg hk => ?_)
          rw [HRV.out] at hg
          exact (q6.far (by simp) g (block_sliced _ _ _ _ _ g hg m cap)).2 hk
        · intro _ g hg
          rw [HRV.out] at hg
          exact q6.far (by simp) g (block_sliced _ _ _ _ _ g hg m cap)
      have hF7 : ∀ k, RF rb (.slice a' n' c') L k → RF rb (.slice (some ⟨b, off, none⟩) m cap) (x :: L) k := by
        rintro k (e | ⟨_, e⟩)
        · exact .inl e
        · rw [HRV.out] at e
          exact .inr ⟨by simp, block_sliced _ _ _ _ _ k e m cap⟩
      have H7 := Lib.hid (And.intro hM7 (And.intro hq7 hF7))
      have H46 := Lib.hid (And.intro h4 h6)
      have HNE : Hid (p4 ≠ W.heap.size) := Lib.hid (by have := HB4.out.lt; omega)
      clear hM7 h4 h6 hq7 hF7 hrb hWs hM6W c6 f6
      generalize w6.setCell ⟨rb, 0, none⟩ (.slice a' n' c') = w7 at *
      generalize W.heap.size = p6 at *
      have HR6 : Hid (w7.rangeAt p6 0 (tmL x)) := Lib.hid H46.out.2.whole
      go_wp2_with (first
        | ((with_reducible refine wpList_load_tm ?_ (.tmp 6) ?_ p6 0 ?_ x HR6.out ?_); (· exact rfl); (· exact rfl); (· exact rfl))
        | ((with_reducible refine wpList_store_blk ?_ 27 (.tmp 4) (.tmp 39) ?_ p4 ?_ _ (tmA x) ?_ 27 H46.out.1 (size_tm x) ?_ (tmA_one x) ?_); (· exact rfl); (· exact rfl); (· exact rfl); (· exact rfl); (· exact rfl); intro w11 hB11 hM11; have H11 := Lib.hid (And.intro hB11 hM11); clear hB11 hM11)
        | fail)
      refine bodyPost_ret (v := .tuple #[.agg (tmA x), .bool true]) ?_ rfl ?_
      · exact results_cell_tmp (t := 4) (u := 5) (b := p4) rfl _ rfl (blk_loadVar H11.out.1 Try.underlying27 rfl (size_tm x))
      rw [HE.out]
      refine ⟨rfl, .slice a' n' c', H7.out.2.1.kept H11.out.2 (fun k hk e => ?_), fun k hk => .inl (H7.out.2.2 k hk), ?_⟩
      · have h1 := HQ0.out.lt k (H7.out.2.2 k hk)
        have h2 := HP4.out
        omega
      · exact H7.out.1.trans' H11.out.2 (fun k hk e => by have := HP4.out; omega)
end Go.Proofs.Ytodcadcapmhgfaa
