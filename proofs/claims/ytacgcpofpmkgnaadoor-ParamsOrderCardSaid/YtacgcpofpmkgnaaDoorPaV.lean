/- The walk of ParamsApart. (printed by genapart5.py) -/
import Derived.Test.YtacgcpofpmkgnaaDoorPaT
import Derived.Deep.RegionHeld3
namespace Go.Proofs.YtacgcpofpmkgnaaDoor
open Go.RowKit

theorem exec_load {P : Program} {w : World} {a : Act} {op : Oper} {ty : TypeId} {x : Operand} (ho : op.op = .load ty x) {p v : Value} (hx : a.eval x = p) (hl : (Instr.loadAt ty p).run P w = .ok v w) : (execOp a.eval op).run P w = .ok (.value v) w := by
  unfold execOp
  simp only [ho, hx, Sem.run_bind, hl, Result.andThen_ok, Sem.run_pure]
theorem exec_eq {P : Program} {w : World} {a : Act} {op : Oper} {b : BinOp} {ty t' : TypeId} {x y : Operand} (ho : op.op = .binOp b ty x y t') {X Y : Array Value} (hx : a.eval x = .agg X) (hy : a.eval y = .agg Y) (hg : P.eqGuardType P.depth ty = false) {r : Bool} (hrun : (binOp b ty (.agg X) (.agg Y)).run P w = .ok (.bool r) w) : (execOp a.eval op).run P w = .ok (.value (.bool r)) w := by
  unfold execOp
  simp only [ho, hx, hy, Sem.run_bind, run_eqGuard_agg (P := P) w b ty x y X Y hg, Result.andThen_ok, hrun, Sem.run_pure]
theorem apart_eq {p q : Pm} (hp : mayB p = true) (hq : mayB q = true) (tp : p.t.length = 16) (tq : q.t.length = 16) : decide (pputL p = pputL q) = pmEq p q := by
  rw [Bool.eq_iff_iff, pmEq_iff]
  simp only [decide_eq_true_eq]
  exact ⟨fun h => put_inj hp hq tp tq h, fun h => by rw [h]⟩
theorem may_two {p q : Pm} (h : ¬ (mayB p = true ∧ mayB q = true)) : mayB p = false ∨ (mayB p = true ∧ mayB q = false) := by
  cases hm : mayB p
  · exact .inl rfl
  · right; rw [hm] at h; simpa using h

set_option maxHeartbeats 8000000 in
set_option maxRecDepth 10000 in
theorem lapart_any {w : World} {p q : Pm} (hT : Tabs w) (h16 : p.t.length = 16) (k16 : q.t.length = 16) : Calls Tryd.prog 7 #[pmV p, pmV q] w fun e w' => e = .returned (.bool true) ∧ Below w.heap.size w w' := by
  have HT := Lib.hid hT
  have H16 := Lib.hid h16
  have K16 := Lib.hid k16
  have ZP := Lib.hid (size25 p h16)
  have ZQ := Lib.hid (size25 q k16)
  have hM0 : Mod (fun _ => False) w ((w.alloc (.cells (pmC p) 25)).alloc (.cells (pmC q) 25)) := ((Mod.refl _ w).alloc _).alloc _
  have hP0 : PmB ((w.alloc (.cells (pmC p) 25)).alloc (.cells (pmC q) 25)) w.heap.size p := (PmB.new w p h16).kept ((Mod.refl _ _).alloc _)
  have hQ0 := PmB.new (w.alloc (.cells (pmC p) 25)) q k16
  rw [show (w.alloc (.cells (pmC p) 25)).heap.size = w.heap.size + 1 by simp] at hQ0
  unfold pmV
  clear hT
  go_enter Tryd.func7, Tryd.ntmps7
  go_wp2_with fail
  refine (alive_any _ (hM0.tabs HT.out (fun h => h))).mono ?_
  rintro e w1 ⟨rfl, hM1⟩
  have HP1 := Lib.hid (hP0.kept hM1)
  have HQ1 := Lib.hid (hQ0.kept hM1)
  have HM1 := Lib.hid (hM0.trans hM1)
  clear hM0 hM1 hP0 hQ0
  go_wp2_with ((with_reducible refine wpList_load_blk ?_ 25 (.tmp 2) ?_ w.heap.size ?_ (pmC p) 25 _ HP1.out.blk Tryd.underlying25 ?_ ZP.out ?_); (· exact rfl); (· exact rfl); (· exact rfl); (· exact rfl))
  refine (may_c H16.out w1).mono ?_
  rintro e w2 ⟨rfl, hM2⟩
  have HP2 := Lib.hid (HP1.out.kept hM2)
  have HQ2 := Lib.hid (HQ1.out.kept hM2)
  have HM2 := Lib.hid (HM1.out.trans hM2)
  have lq := HQ2.out.load
  clear hM2 HM1 HP1 HQ1
  by_cases hc : mayB p = true ∧ mayB q = true
  case neg =>
    rcases may_two hc with h | ⟨h, hk⟩
    · rw [h]
      clear h hc
      go_wp2_with fail
      go_ret
      exact ⟨rfl, HM2.out.below (Nat.le_refl _) (fun _ _ h => h.elim)⟩
    · rw [h]
      have HK := Lib.hid hk
      clear h hk hc
      go_wp2_with ((with_reducible refine wpList_load_g 25 (.tmp 3) ?_ ?_ (.pointer (some ⟨w.heap.size + 1, 0, none⟩)) (.agg (pmC q)) ?_ lq ?_); (· exact rfl); (· exact rfl); (· exact rfl))
      refine (may_c K16.out w2).mono ?_
      rintro e w3 ⟨rfl, hM3⟩
      rw [HK.out]
      go_wp2_with fail
      go_ret
      exact ⟨rfl, (HM2.out.trans hM3).below (Nat.le_refl _) (fun _ _ h => h.elim)⟩
  case pos =>
    obtain ⟨hp, hq⟩ := hc
    rw [hp]
    have HK := Lib.hid hq
    have HAE := Lib.hid (apart_eq hp hq h16 k16)
    clear hp hq h16 k16
    go_wp2_with ((with_reducible refine wpList_load_g 25 (.tmp 3) ?_ ?_ (.pointer (some ⟨w.heap.size + 1, 0, none⟩)) (.agg (pmC q)) ?_ lq ?_); (· exact rfl); (· exact rfl); (· exact rfl))
    refine (may_c K16.out w2).mono ?_
    rintro e w3 ⟨rfl, hM3⟩
    rw [HK.out]
    have hP3 := HP2.out.kept hM3
    have hQ3 := HQ2.out.kept hM3
    have hM3' := HM2.out.trans hM3
    have HT3 := Lib.hid (hM3'.tabs HT.out (fun h => h))
    clear hM3 lq HP2 HQ2 HM2
    go_wp2_with fail
    have hd : Mod (fun _ => False) w3 w3.drew := (Mod.refl _ _).drew
    refine wp_region_held_drew (S := fun X => PmB X w.heap.size p ∧ PmB X (w.heap.size + 1) q ∧ Mod (fun _ => False) w3 X) (by kernel_rfl) ⟨hP3.kept hd, hQ3.kept hd, hd⟩ (fun hS => ?_)
    refine wpAnyH_take (i := 0) (v := .agg (pmC p)) rfl (by kernel_rfl) (by kernel_rfl) (by kernel_rfl) (fun _ _ _ h => h) (Or.inl ⟨by rfl, fun X hX => exec_load rfl (p := .pointer (some ⟨w.heap.size, 0, none⟩)) (by rfl) hX.1.load⟩) hS ?_
    refine wpAnyH_take (i := 2) (v := .agg (pmC q)) rfl (by kernel_rfl) (by kernel_rfl) (by kernel_rfl) (fun _ _ _ h => h) (Or.inl ⟨by rfl, fun X hX => exec_load rfl (p := .pointer (some ⟨w.heap.size + 1, 0, none⟩)) (by rfl) hX.2.1.load⟩) hS ?_
    refine wpAnyH_take (i := 5) (v := .agg (pmC p)) rfl (by kernel_rfl) (by kernel_rfl) (by kernel_rfl) (fun _ _ _ h => h) (Or.inl ⟨by rfl, fun X hX => exec_load rfl (p := .pointer (some ⟨w.heap.size, 0, none⟩)) (by rfl) hX.1.load⟩) hS ?_
    refine wpAnyH_take (i := 6) (v := .agg (pmC q)) rfl (by kernel_rfl) (by kernel_rfl) (by kernel_rfl) (fun _ _ _ h => h) (Or.inl ⟨by rfl, fun X hX => exec_load rfl (p := .pointer (some ⟨w.heap.size + 1, 0, none⟩)) (by rfl) hX.2.1.load⟩) hS ?_
    refine wpAnyH_take (i := 7) (v := .bool (pmEq p q)) rfl (by kernel_rfl) (by kernel_rfl) (by kernel_rfl) (fun _ _ _ h => h) (Or.inl ⟨by rfl, fun X hX => exec_eq rfl (X := pmC p) (Y := pmC q) (by rfl) (by rfl) guard25 (pm_eql X p q H16.out K16.out)⟩) hS ?_
    refine wpAnyH_ready (rs := [1]) (by kernel_rfl) (by simp) ?_
    refine AllReadyH.cons rfl (fun K hK => ?_) AllReadyH.nil
    go_simp
    refine (put_c H16.out rfl rfl (hd.tabs HT3.out (fun h => h))).mono ?_
    rintro e X1 ⟨a1, c1, rfl, ho1, hM1⟩
    have hd1 := hd.trans hM1
    refine hK.out _ _ ⟨hP3.kept hd1, hQ3.kept hd1, hd1⟩ (fun hS => ?_)
    clear hK K
    refine wpAnyH_ready (rs := [3]) (by kernel_rfl) (by simp) ?_
    refine AllReadyH.cons rfl (fun K hK => ?_) AllReadyH.nil
    go_simp
    refine (put_c K16.out rfl rfl (hd1.tabs HT3.out (fun h => h))).mono ?_
    rintro e X2 ⟨a2, c2, rfl, ho2, hM2⟩
    have hd2 := hd1.trans hM2
    refine hK.out _ _ ⟨hP3.kept hd2, hQ3.kept hd2, hd2⟩ (fun hS => ?_)
    clear hK K
    refine wpAnyH_ready (rs := [4]) (by kernel_rfl) (by simp) ?_
    refine AllReadyH.cons rfl (fun K hK => ?_) AllReadyH.nil
    go_simp
    refine (same_c (byts_kept ho1.byts hM2) ho2.byts).mono ?_
    rintro e X3 ⟨rfl, hM3⟩
    rw [HAE.out]
    have hd3 := hd2.trans hM3
    refine hK.out _ _ ⟨hP3.kept hd3, hQ3.kept hd3, hd3⟩ (fun hS => ?_)
    clear hK K
    refine wpAnyH_take (i := 8) (v := .bool true) rfl (by kernel_rfl) (by kernel_rfl) (by kernel_rfl) (fun _ _ _ h => h) (Or.inl ⟨by rfl, fun X hX => ?_⟩) hS ?_
    · go_simp
    refine wpAnyH_take (i := 9) (v := .bool true) rfl (by kernel_rfl) (by kernel_rfl) (by kernel_rfl) (fun _ _ _ h => h) (Or.inl ⟨by rfl, fun X hX => ?_⟩) hS ?_
    · go_simp
    refine wpAnyH_done (by kernel_rfl) ?_ _
    go_wp2_with fail
    go_ret
    exact ⟨rfl, (hM3'.trans hd3).below (Nat.le_refl _) (fun _ _ h => h.elim)⟩
end Go.Proofs.YtacgcpofpmkgnaaDoor
