/- Parts of the proof: SzW. -/
import Derived.Test.YtolgeghdkoodnaaGreatDoorPa04
import Derived.Deep.LoopGhost
set_option maxRecDepth 100000
namespace Go.Proofs.YtolgeghdkoodnaaGreatDoor
open Go.RowKit Go.Maps
theorem AcO.le {p q : Pm} {ids : Nat → List Int} {T : Nat → Tb} {bd bd' : Nat → Nat} (h : AcO p q ids T bd) (hb : ∀ v, v < 2 → bd v ≤ bd' v) : AcO p q ids T bd' := ⟨h.ini, h.ids, fun v hv => Nat.le_trans (h.len v hv) (hb v hv)⟩
theorem exec_ldz {P : Program} {w : World} {a : Act} {op : Oper} {ty : TypeId} {x : Operand} (ho : op.op = .load ty x) {p v : Value} (hx : a.eval x = p) (hl : (Instr.loadAt ty p).run P w = .ok v w) : (execOp a.eval op).run P w = .ok (.value v) w := by
 unfold execOp
 simp [ho, hx, hl, Result.andThen]
theorem exec_pm {X : World} {a : Act} {op : Oper} {x : Operand} {b : Nat} {p : Pm} (ho : op.op = .load 29 x) (hx : a.eval x = .pointer (some ⟨b, 0, none⟩)) (hB : Blk X b (pmC p) 29) (h16 : p.t.length = 16) : (execOp a.eval op).run Tryz.prog X = .ok (.value (.agg (pmC p))) X := exec_ldz ho hx (blk_load_pm hB h16)
theorem exec_build_tp {w : World} {a : Act} {op : Oper} {x y : Operand} {pa pb : Option Addr} (ho : op.op = .buildSlice 62 2 #[(0, x), (1, y)]) (hx : a.eval x = .pointer pa) (hy : a.eval y = .pointer pb) : (execOp a.eval op).run Tryz.prog w = .ok (.value (.slice (some ⟨w.heap.size, 0, none⟩) 2 2)) (w.alloc (.cells #[.pointer pa, .pointer pb] 24)) := by
 have hinf : (Tryz.prog.info? 24).map (fun i => (i.zero, i.size, i.bytes)) = some (some (.pointer none), 1, 8) := by kernel_rfl
 obtain ⟨i0, hi, hz0, hz1, hz2⟩ := info_parts hinf
 unfold execOp
 have hf : Instr.fill (fun i => some (i * i0.size, i0.size)) ((Array.range (2 * i0.size)).map ((Value.pointer none).cells[· % (Value.pointer none).cells.size]!)) (#[(0, x), (1, y)].map fun (i, x) => (i, a.eval x)).toList = some #[.pointer pa, .pointer pb] := by
  rw [hz1]
  have e2 : (#[(0, x), (1, y)].map fun (p : Nat × Operand) => (p.1, a.eval p.2)).toList = [(0, Value.pointer pa), (1, Value.pointer pb)] := by simp [hx, hy]
  have e := Go.Great.fill_whole (s := 1) (by decide) [Value.pointer pa, Value.pointer pb] ((Array.range (2 * 1)).map ((Value.pointer none).cells[· % (Value.pointer none).cells.size]!)) (fun v hv => by
   rcases List.mem_cons.1 hv with rfl | hv
   ·rfl
   ·rw [List.mem_singleton.1 hv]; rfl) (by rw [Array.size_map, Array.size_range]; rfl)
  refine Eq.trans (congrArg _ (e2.trans (by rfl))) (e.trans ?_)
  simp [Value.cells]
 simp only [ho, Sem.run_bind, run_buildSlice w 62 24 2 _ #[.pointer pa, .pointer pb] i0 _ Tryz.underlying62 hi hz0 (by rw [hz1]; decide) (by rw [hz1]; decide) hf, Result.andThen_ok]
 rfl
theorem new_s2 {W w : World} {l : List Th} (h : At W w l) (c : Bool) {p : Pm} (hp : mayB p = true) (h16 : p.t.length = 16) :
  Calls Tryz.prog 8 #[.bool c, .agg (pmC p)] w fun e w' => ∃ tb mb G, e = .returned (.pointer (some ⟨tb, 0, none⟩)) ∧ At W w' (tabTh W.heap.size tb mb G (newT c p) :: l) ∧ Mod (fun _ => False) w w' := by
 refine (tnew_any c p hp h16 w).mono ?_
 rintro e w' ⟨tb, mb, G, rfl, q, hM⟩
 refine ⟨tb, mb, G, rfl, h.push hM (tabTh W.heap.size tb mb G (newT c p)) (q.none rfl h.le) (fun k hk => ?_), hM⟩
 exact q.lt k hk
set_option maxHeartbeats 16000000 in
set_option maxRecDepth 10000 in
theorem across_any {W : World} (hT : Tabs W) {p q : Pm} (h16 : p.t.length = 16) (h16q : q.t.length = 16) {v : Value} {l : List StepV} (hl : Sl W 6 v l.length (l.flatMap stepL)) (hok : ∀ s ∈ l, okStep W s) :
  Calls Tryz.prog 6 #[.agg (pmC p), .agg (pmC q), v] W fun e w' => e = .returned (.bool true) ∧ Below W.heap.size W w' := by
 obtain ⟨va, vc, rfl, -⟩ := Sl.val hl
 have HT := Lib.hid hT
 have HSL := Lib.hid hl
 have HOK := Lib.hid hok
 have H16 := Lib.hid h16
 have H16q := Lib.hid h16q
 have HMW : Hid (Mod (fun _ => False) W ((W.alloc (.cells (pmC p) 29)).alloc (.cells (pmC q) 29))) := Lib.hid (((Mod.refl _ _).alloc _).alloc _)
 have HBX : Hid (Blk ((W.alloc (.cells (pmC p) 29)).alloc (.cells (pmC q) 29)) W.heap.size (pmC p) 29) := Lib.hid ((Blk.new W (pmC p) 29).alloc _)
 have HBY : Hid (Blk ((W.alloc (.cells (pmC p) 29)).alloc (.cells (pmC q) 29)) (W.heap.size + 1) (pmC q) 29) := Lib.hid (by have h := Blk.new (W.alloc (.cells (pmC p) 29)) (pmC q) 29; rw [World.size_alloc] at h; exact h)
 have HAL := Lib.hid (alive_any ((W.alloc (.cells (pmC p) 29)).alloc (.cells (pmC q) 29)) (HMW.out.tabs hT (fun h => h)))
 have HMAY := Lib.hid (fun w => refmay_c h16 w)
 have HMAYq := Lib.hid (fun w => refmay_c h16q w)
 clear hT hl hok h16 h16q
 by_cases h80 : l.length ≤ 80
 ·have t1 : decide ((80 : Int) < (l.length : Int)) = false := decide_eq_false (by omega)
  have t1' : decide (80 < l.length) = false := decide_eq_false (by omega)
  by_cases hs : p.s ≤ 5000
  ·have t2 : decide ((5000 : Int) < (p.s : Int)) = false := decide_eq_false (by omega)
   have t2' : decide (5000 < p.s) = false := decide_eq_false (by omega)
   by_cases hsq : q.s ≤ 5000
   ·have t3 : decide ((5000 : Int) < (q.s : Int)) = false := decide_eq_false (by omega)
    have t3' : decide (5000 < q.s) = false := decide_eq_false (by omega)
    cases hm : mayB p with
    | true =>
     rw [hm] at HMAY
     cases hmq : mayB q with
     | true =>
      rw [hmq] at HMAYq
      have HMB := Lib.hid hm
      have HMBq := Lib.hid hmq
      have HPS := Lib.hid hs
      have HQS := Lib.hid hsq
      have hnb : (l.length : Int) ≤ 80 := by omega
      clear h80 hs hsq hm hmq
      generalize hn : l.length = n at *
      have HN := Lib.hid hn
      clear hn
      as_aux_lemma =>
      go_enter Tryz.func6, Tryz.ntmps6
      go_upto_region 5 with (first
       | (go_at_call 7; (with_reducible refine HAL.out.mono ?_); rintro e w0 ⟨rfl, hm⟩; have HM0 := Lib.hid (HMW.out.trans hm); have HMZ0 := Lib.hid hm; have HP0 := Lib.hid (hm.blk HBX.out (fun h => h)); have HQ0 := Lib.hid (hm.blk HBY.out (fun h => h)); have c2 : w0.cell? ⟨W.heap.size, 2, none⟩ = some (.int .u64 (p.s : Int)) := HP0.out.cellAt 2 rfl; have c2q : w0.cell? ⟨W.heap.size + 1, 2, none⟩ = some (.int .u64 (q.s : Int)) := HQ0.out.cellAt 2 rfl; have HL0 := Lib.hid (blk_load_pm HP0.out H16.out); clear hm)
       | ((with_reducible refine wpList_load_g 29 (.tmp 3) ?_ ?_ (.pointer (some ⟨W.heap.size, 0, none⟩)) (.agg (pmC p)) ?_ HL0.out ?_); (iterate 3 exact rfl))
       | (go_at_call 13; (with_reducible refine (HMAY.out _).mono ?_); rintro e w1 ⟨rfl, hm⟩; have HM1 := Lib.hid (HM0.out.trans hm); have HMZ1 := Lib.hid (HMZ0.out.trans hm); have HP1 := Lib.hid (hm.blk HP0.out (fun h => h)); have HQ1 := Lib.hid (hm.blk HQ0.out (fun h => h)); have HL1 := Lib.hid (blk_load_pm HQ1.out H16q.out); clear hm)
       | ((with_reducible refine wpList_load_g 29 (.tmp 4) ?_ ?_ (.pointer (some ⟨W.heap.size + 1, 0, none⟩)) (.agg (pmC q)) ?_ HL1.out ?_); (iterate 3 exact rfl))
       | (go_at_call 13; (with_reducible refine (HMAYq.out _).mono ?_); rintro e w2 ⟨rfl, hm⟩; have HMZ2 := Lib.hid (HMZ1.out.trans hm); clear hm)
       | fail)
      have HA2 : Hid (At W w2.drew [blkTh (W.heap.size + 1) (pmC q) 29, blkTh W.heap.size (pmC p) 29]) := Lib.hid (by
       have h1 := (At.start W).push ((Mod.refl (fun _ => False) W).alloc (.cells (pmC p) 29)) (blkTh W.heap.size (pmC p) 29) (Blk.new W (pmC p) 29) (fun k hk => by have e : k = W.heap.size := hk; rw [World.size_alloc]; omega)
       have h2 := h1.push ((Mod.refl (fun _ => False) _).alloc (.cells (pmC q) 29)) (blkTh (W.heap.size + 1) (pmC q) 29) HBY.out (fun k hk => by have e : k = W.heap.size + 1 := hk; simp only [World.size_alloc]; omega)
       exact (h2.still HMZ2.out).still (Mod.refl (fun _ => False) w2).drew)
      refine wp_region_held_drew (S := fun X => Blk X W.heap.size (pmC p) 29 ∧ Blk X (W.heap.size + 1) (pmC q) 29) (by kernel_rfl) ⟨HA2.out.get [_], HA2.out.get []⟩ (fun hS => ?_)
      generalize w2.drew = Y at *
      as_aux_lemma =>
      refine tk 0 (.agg (pmC p)) (some 54) rfl rfl (by kernel_rfl) (fun _ _ _ h => h) (Or.inl ⟨by rfl, fun X hX => ?_⟩) hS ?_
      ·exact exec_pm (x := .tmp 3) rfl rfl (show (fun X => Blk X W.heap.size (pmC p) 29 ∧ Blk X (W.heap.size + 1) (pmC q) 29) X from hX).1 H16.out
      (try go_frame); refine tk 2 (.agg (pmC q)) (some 56) rfl rfl (by kernel_rfl) (fun _ _ _ h => h) (Or.inl ⟨by rfl, fun X hX => ?_⟩) hS ?_
      ·exact exec_pm (x := .tmp 4) rfl rfl (show (fun X => Blk X W.heap.size (pmC p) 29 ∧ Blk X (W.heap.size + 1) (pmC q) 29) X from hX).2 H16q.out
      (try go_frame); refine wpAnyH_ready (rs := [1]) (by kernel_rfl) (by simp) ?_
      refine arH (o := ⟨some 55, _, _, _, _, none⟩) rfl fun K hK => ?_
      go_simp
      refine (new_s HA2.out true (p := p) HMB.out H16.out).mono ?_
      rintro e w3 ⟨ta, ma, Ga, rfl, hs3⟩
      have HS3 := Lib.hid hs3
      refine hK.out _ _ ⟨HS3.out.get [_, _], HS3.out.get [_]⟩ (fun hS => ?_)
      clear hK K hs3
      refine wpAnyH_ready (rs := [3]) (by kernel_rfl) (by simp) ?_
      refine arH (o := ⟨some 57, _, _, _, _, none⟩) rfl fun K hK => ?_
      go_simp
      refine (new_s HS3.out false (p := q) HMBq.out H16q.out).mono ?_
      rintro e w4 ⟨tb, mb, Gb, rfl, hs4⟩
      have HS4 := Lib.hid hs4
      refine hK.out _ _ ⟨HS4.out.get [_, _, _], HS4.out.get [_, _]⟩ (fun hS => ?_)
      clear hK K hs4
      refine wpAnyH_ready (rs := [4]) (by kernel_rfl) (by simp) ?_
      refine arH (o := ⟨some 58, _, _, _, _, none⟩) rfl fun K hK => ?_
      refine step_val rfl (exec_build_tp (x := .tmp 55) (y := .tmp 57) rfl rfl rfl) ?_
      obtain ⟨bx, hbx⟩ : ∃ bx, w4.heap.size = bx := ⟨_, rfl⟩
      have HS5 : Hid (At W (w4.alloc (.cells #[.pointer (some ⟨ta, 0, none⟩), .pointer (some ⟨tb, 0, none⟩)] 24)) (blkTh bx #[.pointer (some ⟨ta, 0, none⟩), .pointer (some ⟨tb, 0, none⟩)] 24 :: _)) := Lib.hid (HS4.out.push ((Mod.refl (fun _ => False) w4).alloc _) (blkTh bx #[.pointer (some ⟨ta, 0, none⟩), .pointer (some ⟨tb, 0, none⟩)] 24) (by rw [← hbx]; exact Blk.new _ _ _) (fun k hk => by have e : k = bx := hk; rw [World.size_alloc]; omega))
      rw [hbx]
      clear hbx
      refine hK.out _ _ ⟨HS5.out.get [_, _, _, _], HS5.out.get [_, _, _]⟩ (fun hS => ?_)
      clear hK K
      generalize w4.alloc (.cells #[.pointer (some ⟨ta, 0, none⟩), .pointer (some ⟨tb, 0, none⟩)] 24) = w5 at *
      refine' tk 5 _ (some 7) rfl rfl (by kernel_rfl) (fun _ _ _ h => h) (Or.inl ⟨by rfl, fun X hX => ?_⟩) hS ?_; rotate_left
      ·go_simp; exact rfl
      (try go_frame)
      as_aux_lemma =>
      refine wpAnyH_done (by kernel_rfl) ?_ _
      go_upto_region 6 with fail
      have HA5 := Lib.hid (HS5.out.still (Mod.refl (fun _ => False) w5).drew)
      refine wp_region_held_drew (S := fun X => Blk X bx #[.pointer (some ⟨ta, 0, none⟩), .pointer (some ⟨tb, 0, none⟩)] 24 ∧ Blk X (W.heap.size + 1) (pmC q) 29) (by kernel_rfl) ⟨HA5.out.get [], HA5.out.get [_, _, _]⟩ (fun hS => ?_)
      generalize w5.drew = Y5 at *
      as_aux_lemma =>
      refine' tk 0 _ (some 59) rfl rfl (by kernel_rfl) (fun _ _ _ h => h) (Or.inl ⟨by rfl, fun X hX => ?_⟩) hS ?_; rotate_left
      ·go_simp; exact rfl
      (try go_frame); refine' tk 1 _ (some 60) rfl rfl (by kernel_rfl) (fun _ _ _ h => h) (Or.inl ⟨by rfl, fun X hX => ?_⟩) hS ?_; rotate_left
      ·go_simp; exact rfl
      (try go_frame); refine' tk 2 _ (some 61) rfl rfl (by kernel_rfl) (fun _ _ _ h => h) (Or.inl ⟨by rfl, fun X hX => ?_⟩) hS ?_; rotate_left
      ·have h := (show (fun X => Blk X bx #[.pointer (some ⟨ta, 0, none⟩), .pointer (some ⟨tb, 0, none⟩)] 24 ∧ Blk X (W.heap.size + 1) (pmC q) 29) X from hX).1.cellAt 0 rfl; go_simp; exact rfl
      (try go_frame); refine tk 3 (.agg (pmC q)) (some 62) rfl rfl (by kernel_rfl) (fun _ _ _ h => h) (Or.inl ⟨by rfl, fun X hX => ?_⟩) hS ?_
      ·exact exec_pm (x := .tmp 4) rfl rfl (show (fun X => Blk X bx #[.pointer (some ⟨ta, 0, none⟩), .pointer (some ⟨tb, 0, none⟩)] 24 ∧ Blk X (W.heap.size + 1) (pmC q) 29) X from hX).2 H16q.out
      (try go_frame); refine wpAnyH_ready (rs := [4]) (by kernel_rfl) (by simp) ?_
      refine arH (o := ⟨some 63, _, _, _, _, none⟩) rfl fun K hK => ?_
      go_simp
      refine (peer_s [_, _] HA5.out (p := q) HMBq.out H16q.out).mono ?_
      rintro e w6 ⟨rfl, G6, hs⟩
      simp only [List.cons_append, List.nil_append] at hs
      have HS6 := Lib.hid hs
      refine hK.out _ _ ⟨HS6.out.get [], HS6.out.get [_, _, _]⟩ (fun hS => ?_)
      clear hK K hs
      refine wpAnyH_done (by kernel_rfl) ?_ _
      go_upto_region 7 with fail
      have HA6 := Lib.hid (HS6.out.still (Mod.refl (fun _ => False) w6).drew)
      refine wp_region_held_drew (S := fun X => Blk X bx #[.pointer (some ⟨ta, 0, none⟩), .pointer (some ⟨tb, 0, none⟩)] 24 ∧ Blk X (W.heap.size) (pmC p) 29) (by kernel_rfl) ⟨HA6.out.get [], HA6.out.get [_, _, _, _]⟩ (fun hS => ?_)
      generalize w6.drew = Y6 at *
      as_aux_lemma =>
      refine' tk 0 _ (some 64) rfl rfl (by kernel_rfl) (fun _ _ _ h => h) (Or.inl ⟨by rfl, fun X hX => ?_⟩) hS ?_; rotate_left
      ·go_simp; exact rfl
      (try go_frame); refine' tk 1 _ (some 65) rfl rfl (by kernel_rfl) (fun _ _ _ h => h) (Or.inl ⟨by rfl, fun X hX => ?_⟩) hS ?_; rotate_left
      ·go_simp; exact rfl
      (try go_frame); refine' tk 2 _ (some 66) rfl rfl (by kernel_rfl) (fun _ _ _ h => h) (Or.inl ⟨by rfl, fun X hX => ?_⟩) hS ?_; rotate_left
      ·have h := (show (fun X => Blk X bx #[.pointer (some ⟨ta, 0, none⟩), .pointer (some ⟨tb, 0, none⟩)] 24 ∧ Blk X (W.heap.size) (pmC p) 29) X from hX).1.cellAt 1 rfl; go_simp; exact rfl
      (try go_frame); refine tk 3 (.agg (pmC p)) (some 67) rfl rfl (by kernel_rfl) (fun _ _ _ h => h) (Or.inl ⟨by rfl, fun X hX => ?_⟩) hS ?_
      ·exact exec_pm (x := .tmp 3) rfl rfl (show (fun X => Blk X bx #[.pointer (some ⟨ta, 0, none⟩), .pointer (some ⟨tb, 0, none⟩)] 24 ∧ Blk X (W.heap.size) (pmC p) 29) X from hX).2 H16.out
      (try go_frame); refine wpAnyH_ready (rs := [4]) (by kernel_rfl) (by simp) ?_
      refine arH (o := ⟨some 68, _, _, _, _, none⟩) rfl fun K hK => ?_
      go_simp
      refine (peer_s [_] HA6.out (p := p) HMB.out H16.out).mono ?_
      rintro e w7 ⟨rfl, G7, hs⟩
      simp only [List.cons_append, List.nil_append] at hs
      have HS7 := Lib.hid hs
      refine hK.out _ _ ⟨HS7.out.get [], HS7.out.get [_, _, _, _]⟩ (fun hS => ?_)
      clear hK K hs
      refine wpAnyH_done (by kernel_rfl) ?_ _
      as_aux_lemma =>
      go_wp2_with fail
      have HS8 : Hid (AcAt W (((w7.alloc (.cells #[.slice none 0 0, .slice none 0 0, .slice none 0 0, .slice none 0 0, .slice none 0 0, .slice none 0 0] 64)).alloc (.cells #[.slice none 0 0, .slice none 0 0, .slice none 0 0, .slice none 0 0, .slice none 0 0, .slice none 0 0] 64)).alloc (.cells #[.slice none 0 0, .slice none 0 0] 65)) [blkTh W.heap.size (pmC p) 29, blkTh (W.heap.size + 1) (pmC q) 29] _ _ (fun _ => []) (fun _ => []) (fun _ => [])) := Lib.hid (acStart HS7.out)
      generalize (((w7.alloc (.cells #[.slice none 0 0, .slice none 0 0, .slice none 0 0, .slice none 0 0, .slice none 0 0, .slice none 0 0] 64)).alloc (.cells #[.slice none 0 0, .slice none 0 0, .slice none 0 0, .slice none 0 0, .slice none 0 0, .slice none 0 0] 64)).alloc (.cells #[.slice none 0 0, .slice none 0 0] 65)) = w8 at *
      generalize w7.heap.size = b8 at *
      have HO8 := Lib.hid (AcO.start HMB.out HMBq.out)
      go_loopw [11] (fun s11 wr => ∃ (w : Nat) (T : Nat → Tb) (ids : Nat → List Int) (VI : Nat → Value), w ≤ 2 ∧ s11 = .int .i64 w ∧ Hid (AcAt W wr [blkTh W.heap.size (pmC p) 29, blkTh (W.heap.size + 1) (pmC q) 29] ⟨bx, fun v => if v = 0 then ta else tb, fun v => if v = 0 then ma else mb, b8, b8 + 1, b8 + 1 + 1, nil3, nil3, VI⟩ T (fun _ => []) (fun _ => []) ids ∧ AcO p q ids T (fun v => if v < w then 3 else 0))) (fun s11 _ => 2 - (intOf s11).toNat)
      case atStart => exact ⟨0, _, _, _, by omega, rfl, Lib.hid ⟨HS8.out, HO8.out⟩⟩
      case round =>
       as_aux_lemma =>
       obtain ⟨w, T, ids, VI, hw, rfl, HI⟩ := hrel
       by_cases hw2 : w < 2
       ·have ti : decide ((w : Int) < 2) = true := decide_eq_true (by omega)
        have ti' : decide (w < 2) = true := decide_eq_true hw2
        go_wp2_with fail
        as_aux_lemma =>
        go_loopw [12] (fun s12 wr => ∃ (k : Nat) (T : Nat → Tb) (ids : Nat → List Int) (VI : Nat → Value), k ≤ 3 ∧ s12 = .int .i64 k ∧ Hid (AcAt W wr [blkTh W.heap.size (pmC p) 29, blkTh (W.heap.size + 1) (pmC q) 29] ⟨bx, fun v => if v = 0 then ta else tb, fun v => if v = 0 then ma else mb, b8, b8 + 1, b8 + 1 + 1, nil3, nil3, VI⟩ T (fun _ => []) (fun _ => []) ids ∧ AcO p q ids T (fun v => if v < w then 3 else if v = w then k else 0))) (fun s12 _ => 3 - (intOf s12).toNat)
        case atStart => exact ⟨0, T, ids, VI, by omega, rfl, Lib.hid ⟨HI.out.1, HI.out.2.le (fun v hv => by split <;> omega)⟩⟩
        case round =>
         obtain ⟨k, T, ids, VI, hk, rfl, HK⟩ := hrel
         by_cases hk3 : k < 3
         ·have tk : decide ((k : Int) < 3) = true := decide_eq_true (by omega)
          have tk' : decide (k < 3) = true := decide_eq_true hk3
          have cx := HK.out.1.xcell hw2
          dsimp only at cx
          have te : ((k : Int) == 2) = decide (k = 2) := by rw [Bool.eq_iff_iff]; simp; omega
          have te' : (k == 2) = decide (k = 2) := by rw [Bool.eq_iff_iff]; simp
          have te2 : decide ((k : Int) = 2) = decide (k = 2) := by rw [Bool.eq_iff_iff]; simp; omega
          have HOP := Lib.hid (acOpen_s HK.out.1 HK.out.2 hw2 (decide (k = 2)) (by rw [if_neg (Nat.lt_irrefl w), if_pos rfl]; omega))
          dsimp only at HOP
          generalize (if w = 0 then ta else tb) = tw at *
          generalize hb2 : decide (k = 2) = b2 at *
          clear hb2
          go_upto_region 17 with (first
           | (go_at_call 11; (with_reducible refine HOP.out.mono ?_); rintro e w9 ⟨T9, z9, r9, rfl, h9, o9⟩; have HA9 := Lib.hid h9; have HO9 := Lib.hid o9; clear h9 o9)
           | fail)
          as_aux_lemma =>
          rcases HO9.out with ⟨rfl, ho9⟩ | ⟨rfl, ho9⟩
          ·have HQ9 := Lib.hid ho9
           clear ho9
           go_wp2_with fail
           go_roundw
           case rel => exact ⟨k + 1, T9, ids, VI, by omega, by simp, Lib.hid ⟨HA9.out, HQ9.out.le (fun v hv => by split <;> (try split) <;> omega)⟩⟩
           case measure => simp [intOf]; omega
          ·have HQ9 := Lib.hid ho9
           clear ho9
           obtain ⟨ua, un, uc, w10, hr9, hfz, hcz, hat⟩ := acIdApp HA9.out hw2 (z9 : Int) (by rw [HK.out.2.ids w hw2]; have := HK.out.2.len w hw2; rw [if_neg (Nat.lt_irrefl w), if_pos rfl] at this; omega) 36
           have cv := HA9.out.b10cell hw2
           dsimp only at hr9 hfz hcz hat cv
           have HAR := Lib.hid hr9
           have HAT := Lib.hid hat
           clear hr9 hat HO9
           go_wp2_with (first
            | ((with_reducible refine wpList_build_u ?_ (.tmp 94) ?_ (z9 : Int) ?_ ?_); (iterate 3 exact rfl))
            | ((with_reducible refine wpList_val ?_ (exec_app (s := .tmp 93) (x := .tmp 95) ?_ ?_ ?_ HAR.out) ?_); (iterate 4 exact rfl))
            | fail)
           go_roundw
           case rel => exact ⟨k + 1, T9, _, _, by omega, by simp, Lib.hid ⟨HAT.out, HQ9.out.le (fun v hv => by unfold upd2; dsimp only; (repeat' split) <;> omega)⟩⟩
           case measure => simp [intOf]; omega
         ·have tk : decide ((k : Int) < 3) = false := decide_eq_false (by omega)
          have tk' : decide (k < 3) = false := decide_eq_false hk3
          go_wp2_with fail
          go_roundw
          case rel => exact ⟨w + 1, T, ids, VI, by omega, by simp, Lib.hid ⟨HK.out.1, HK.out.2.le (fun v hv => by (repeat' split) <;> omega)⟩⟩
          case measure => simp [intOf]; omega
       ·have ti : decide ((w : Int) < 2) = false := decide_eq_false (by omega)
        have ti' : decide (w < 2) = false := decide_eq_false hw2
        as_aux_lemma =>
        have HR0 := Lib.hid (AcR.start HI.out.1 HI.out.2 (fun v hv => by split <;> omega) HPS.out HQS.out)
        clear HI HO8 HS8 hw2 hw
        go_wp2_with fail
        generalize (fun v : Nat => if v = 0 then ta else tb) = tbf at *
        generalize (fun v : Nat => if v = 0 then ma else mb) = mbf at *
        generalize (fun v : Nat => if v = 0 then p.d else q.d) = pdf at *
        clear HA5 HA6 HS5 HS6 HS7
        as_aux_lemma =>
        go_loopg [15] n (fun gk s15 wr => ∃ i : Nat, i ≤ n ∧ gk = n - i ∧ s15 = .int .i64 i ∧ Hid (AcR W wr [blkTh W.heap.size (pmC p) 29, blkTh (W.heap.size + 1) (pmC q) 29] bx b8 tbf mbf VI pdf ids (2000 * i)))
        case atStart => exact ⟨0, by omega, by omega, rfl, Lib.hid HR0.out⟩
        case round =>
         as_aux_lemma =>
         obtain ⟨i, hi, rfl, rfl, HI⟩ := hrel
         by_cases hin : i < n
         ·obtain ⟨st, hst⟩ : ∃ st, l[i]? = some st := ⟨_, List.getElem?_eq_getElem (by rw [HN.out]; exact hin)⟩
          obtain ⟨g, off, cap, e, hcell⟩ := steps_at (by have h := HSL.out; rw [← HN.out] at h; exact h) hst
          simp only [Value.slice.injEq] at e
          obtain ⟨rfl, -, rfl⟩ := e
          have hso := HOK.out st (List.mem_of_getElem? hst)
          have hld := step_load (w := wr) (b := g) (o := off + i * 6) (s := st) (fun j u hu => HI.out.fin.cellAt (hcell j u hu) (fun h => h))
          clear hcell hst
          obtain ⟨sk, sw, sp, sn, sv, sl, sd⟩ := st
          obtain ⟨hbd, hsp, hsn, hsw, hsl1, hsl2⟩ := hso
          obtain ⟨da, dc, hdv, hdc⟩ := Sl.val hbd
          simp only at hdv hbd hsp hsn hsw hsl1 hsl2 hld hdc
          subst hdv
          have HBD := Lib.hid hbd
          have HSPN := Lib.hid (And.intro hsp hsn)
          have HSL2 := Lib.hid (And.intro hsl1 hsl2)
          have HDC := Lib.hid hdc
          have HLD := Lib.hid hld
          clear hbd hsp hsn hsw hsl1 hsl2 hld hdc
          have ti : decide ((i : Int) < (n : Int)) = true := decide_eq_true (by omega)
          have ti' : decide (i < n) = true := decide_eq_true hin
          obtain ⟨dn, hdn⟩ : ∃ dn, sd.length = dn := ⟨_, rfl⟩
          rw [hdn] at HBD HLD HDC
          have HDN := Lib.hid hdn
          clear hdn
          go_upto_region 23 with (first
           | ((with_reducible refine wpList_load_g 44 (.tmp 106) ?_ ?_ (.pointer (some ⟨g, off + i * 6, none⟩)) (.agg #[.int .i64 sk, .int .i64 sw, .int .i64 sp, .int .i64 sn, .slice da dn dc, .int .u16 sl]) ?_ HLD.out ?_); (iterate 3 exact rfl))
           | fail)
          have HA1 := Lib.hid (HI.out.new #[.int .i64 sk, .int .i64 sw, .int .i64 sp, .int .i64 sn, .slice da dn dc, .int .u16 sl] 44)
          generalize wr.alloc (.cells #[.int .i64 sk, .int .i64 sw, .int .i64 sp, .int .i64 sn, .slice da dn dc, .int .u16 sl] 44) = w5 at *
          generalize wr.heap.size = sb at *
          have hb5 : Blk w5 sb #[.int .i64 sk, .int .i64 sw, .int .i64 sp, .int .i64 sn, .slice da dn dc, .int .u16 sl] 44 := HA1.out.get []
          have HB5 := Lib.hid hb5
          have s1 : w5.cell? ⟨sb, 1, none⟩ = some (.int .i64 sw) := hb5.cellAt 1 rfl
          clear hb5
          go_upto_if 111 with fail
          go_cut [17] (fun s17 wx => ∃ w : Nat, w < 2 ∧ s17 = .int .i64 w ∧ wx = w5)
          case first =>
           by_cases h2 : Int.tmod sw 2 = 0
           ·have t2 : (Int.tmod sw 2 == 0) = true := by simp [h2]
            go_wp2_with fail
            go_meet
            exact ⟨0, by decide, rfl, rfl⟩
           ·have t2 : (Int.tmod sw 2 == 0) = false := by simp [h2]
            go_wp2_with fail
            go_meet
            exact ⟨1, by decide, rfl, rfl⟩
          case rest =>
           as_aux_lemma =>
           obtain ⟨w, hw2, rfl, rfl⟩ := hcut
           clear s1
           have s2 : wc.cell? ⟨sb, 2, none⟩ = some (.int .i64 sp) := HB5.out.cellAt 2 rfl
           have s3 : wc.cell? ⟨sb, 3, none⟩ = some (.int .i64 sn) := HB5.out.cellAt 3 rfl
           have s4 : wc.cell? ⟨sb, 4, none⟩ = some (.slice da dn dc) := HB5.out.cellAt 4 rfl
           have s5 : wc.cell? ⟨sb, 5, none⟩ = some (.int .u16 sl) := HB5.out.cellAt 5 rfl
           by_cases hp0 : sp < 0
           ·have tp : decide (sp < 0) = true := decide_eq_true hp0
            go_wp2_with fail
            go_ret
            exact ⟨rfl, Mod.none_belowX HA1.out.fin⟩
           ·have tp : decide (sp < 0) = false := decide_eq_false hp0
            by_cases hd300 : dn ≤ 300
            ·have td : decide ((300 : Int) < (dn : Int)) = false := decide_eq_false (by omega)
             have td' : decide (300 < dn) = false := decide_eq_false (by omega)
             by_cases hn3 : 3000 < sn
             ·have tn : decide ((3000 : Int) < sn) = true := decide_eq_true hn3
              go_wp2_with fail
              go_ret
              exact ⟨rfl, Mod.none_belowX HA1.out.fin⟩
             ·have tn : decide ((3000 : Int) < sn) = false := decide_eq_false hn3
              obtain ⟨ia, ic, hvi, hfew, cv, hig⟩ := HA1.out.idsV hw2
              obtain ⟨nI, hnI⟩ : ∃ nI, (ids w).length = nI := ⟨_, rfl⟩
              rw [hnI] at hvi hfew cv hig
              have HNI := Lib.hid hnI
              have HVI := Lib.hid hvi
              clear hnI hvi
              by_cases hn0 : nI = 0
              ·have tz : ((nI : Int) == 0) = true := by simp [hn0]
               have tz' : (nI == 0) = true := by simp [hn0]
               clear hn0 hig
               go_wp2_with fail
               go_roundg (n - (i + 1))
               case measure => omega
               case rel => exact ⟨i + 1, by omega, rfl, by simp, Lib.hid (HA1.out.drop.more (by omega))⟩
              ·have tz : ((nI : Int) == 0) = false := beq_eq_false_iff_ne.2 (by omega)
               have tz' : (nI == 0) = false := beq_eq_false_iff_ne.2 hn0
               obtain ⟨ig, rfl⟩ := hig hn0
               obtain ⟨k, hk⟩ : ∃ k : Nat, Int.tmod sp (nI : Int) = (k : Int) := ⟨(Int.tmod sp (nI : Int)).toNat, by rw [Int.tmod_eq_emod_of_nonneg (by omega)]; have := Int.emod_nonneg sp (show (nI : Int) ≠ 0 by omega); omega⟩
               have hkn : k < nI := by have h := Int.emod_lt_of_pos sp (show (0 : Int) < nI by omega); rw [← Int.tmod_eq_emod_of_nonneg (by omega), hk] at h; omega
               have hk3 : k < 3 := by omega
               obtain ⟨id, hz, cid⟩ := HA1.out.idC hw2 HVI.out (k := k) (by rw [HNI.out]; exact hkn)
               have HZ := Lib.hid hz
               have uk : IntKind.i64.wrap (k : Int) = (k : Int) := IntWalk.i64_in _ (by omega)
               have hwi : (w : Int) < 2 := by omega
               have hki : (k : Int) < (nI : Int) := by omega
               have hki3 : (k : Int) < 3 := by omega
               clear hig hz
               as_aux_lemma =>
               go_upto_region 29 with fail
               have HA1y := Lib.hid (HA1.out.still (Mod.refl (fun _ => False) wc).drew)
               refine wp_region_held_drew (S := fun X => X.cell? ⟨sb, 2, none⟩ = some (.int .i64 sp) ∧ X.cell? ⟨b8 + 1 + 1, w, none⟩ = some (.slice (some ⟨ig, 0, none⟩) nI ic)) (by kernel_rfl) ⟨s2, cv⟩ (fun hS => ?_)
               generalize wc.drew = Y29 at *
               have HB29 : Hid (Blk Y29 sb #[.int .i64 sk, .int .i64 sw, .int .i64 sp, .int .i64 sn, .slice da dn dc, .int .u16 sl] 44) := Lib.hid (HA1y.out.get [])
               clear HA1
               as_aux_lemma =>
               refine' tk 0 _ (some 131) rfl rfl (by kernel_rfl) (fun _ _ _ h => h) (Or.inl ⟨by rfl, fun X hX => ?_⟩) hS ?_; rotate_left
               ·go_simp; exact rfl
               (try go_frame); refine' tk 1 _ (some 132) rfl rfl (by kernel_rfl) (fun _ _ _ h => h) (Or.inl ⟨by rfl, fun X hX => ?_⟩) hS ?_; rotate_left
               ·have h := hX.1; go_simp; exact rfl
               (try go_frame); refine' tk 2 _ (some 133) rfl rfl (by kernel_rfl) (fun _ _ _ h => h) (Or.inl ⟨by rfl, fun X hX => ?_⟩) hS ?_; rotate_left
               ·go_simp; exact rfl
               (try go_frame); refine' tk 3 _ (some 134) rfl rfl (by kernel_rfl) (fun _ _ _ h => h) (Or.inl ⟨by rfl, fun X hX => ?_⟩) hS ?_; rotate_left
               ·go_simp; exact rfl
               (try go_frame); refine' tk 4 _ (some 135) rfl rfl (by kernel_rfl) (fun _ _ _ h => h) (Or.inl ⟨by rfl, fun X hX => ?_⟩) hS ?_; rotate_left
               ·have h := hX.2; go_simp; exact rfl
               (try go_frame); refine' tk 5 _ (some 136) rfl rfl (by kernel_rfl) (fun _ _ _ h => h) (Or.inl ⟨by rfl, fun X hX => ?_⟩) hS ?_; rotate_left
               ·go_simp; exact rfl
               (try go_frame)
               as_aux_lemma =>
               refine' tk 6 _ (some 137) rfl rfl (by kernel_rfl) (fun _ _ _ h => h) (Or.inl ⟨by rfl, fun X hX => ?_⟩) hS ?_; rotate_left
               ·go_simp; exact rfl
               (try go_frame); refine' tk 7 _ (some 18) rfl rfl (by kernel_rfl) (fun _ _ _ h => h) (Or.inl ⟨by rfl, fun X hX => ?_⟩) hS ?_; rotate_left
               ·go_simp; exact rfl
               (try go_frame); refine wpAnyH_done (by kernel_rfl) ?_ _
               have cv29 : Y29.cell? ⟨b8 + 1 + 1, w, none⟩ = some (.slice (some ⟨ig, 0, none⟩) nI ic) := hS.2
               obtain ⟨id2, hz2, cid⟩ := HA1y.out.idC hw2 HVI.out (k := k) (by rw [HNI.out]; exact hkn)
               obtain rfl : id2 = id := by have h := HZ.out; rw [hz2] at h; simp only [Option.some.injEq] at h; omega
               have s0 : Y29.cell? ⟨sb, 0, none⟩ = some (.int .i64 sk) := HB29.out.cellAt 0 rfl
               clear hz2 s2 cv hS
               as_aux_lemma =>
               go_upto_block 6 with fail
               clear cv29 cid
               go_cut [] (fun wx => Hid (AcR W wx [blkTh sb #[.int .i64 sk, .int .i64 sw, .int .i64 sp, .int .i64 sn, .slice da dn dc, .int .u16 sl] 44, blkTh W.heap.size (pmC p) 29, blkTh (W.heap.size + 1) (pmC q) 29] bx b8 tbf mbf VI pdf ids (2000 * (i + 1))))
               case first =>
                by_cases k0 : sk = 0
                ·subst k0
                 as_aux_lemma =>
                  go_upto_region 33 with fail
                  have H33 := Lib.hid (HA1y.out.still (Mod.refl (fun _ => False) Y29).drew)
                  refine wp_region_held_drew (S := fun X => X.cell? ⟨bx, w, none⟩ = some (.pointer (some ⟨tbf w, 0, none⟩)) ∧ X.cell? ⟨sb, 4, none⟩ = some (.slice da dn dc)) (by kernel_rfl) ⟨H33.out.xcell hw2, ((show Blk _ sb #[.int .i64 _, .int .i64 sw, .int .i64 sp, .int .i64 sn, .slice da dn dc, .int .u16 sl] 44 from H33.out.get []).cellAt 4 rfl)⟩ (fun hS => ?_)
                  generalize Y29.drew = Y33 at *
                  as_aux_lemma =>
                  refine' tk 0 _ (some 149) rfl rfl (by kernel_rfl) (fun _ _ _ h => h) (Or.inl ⟨by rfl, fun X hX => ?_⟩) hS ?_; rotate_left
                  ·go_simp; exact rfl
                  (try go_frame); refine' tk 1 _ (some 150) rfl rfl (by kernel_rfl) (fun _ _ _ h => h) (Or.inl ⟨by rfl, fun X hX => ?_⟩) hS ?_; rotate_left
                  ·go_simp; exact rfl
                  (try go_frame); refine' tk 2 _ (some 151) rfl rfl (by kernel_rfl) (fun _ _ _ h => h) (Or.inl ⟨by rfl, fun X hX => ?_⟩) hS ?_; rotate_left
                  ·go_simp; exact rfl
                  (try go_frame); refine' tk 3 _ (some 152) rfl rfl (by kernel_rfl) (fun _ _ _ h => h) (Or.inl ⟨by rfl, fun X hX => ?_⟩) hS ?_; rotate_left
                  ·have h := hX.1; go_simp; exact rfl
                  (try go_frame); refine' tk 4 _ (some 153) rfl rfl (by kernel_rfl) (fun _ _ _ h => h) (Or.inl ⟨by rfl, fun X hX => ?_⟩) hS ?_; rotate_left
                  ·go_simp; exact rfl
                  (try go_frame); refine' tk 5 _ (some 154) rfl rfl (by kernel_rfl) (fun _ _ _ h => h) (Or.inl ⟨by rfl, fun X hX => ?_⟩) hS ?_; rotate_left
                  ·go_simp; exact rfl
                  (try go_frame)
                  as_aux_lemma =>
                  refine' tk 6 _ (some 155) rfl rfl (by kernel_rfl) (fun _ _ _ h => h) (Or.inl ⟨by rfl, fun X hX => ?_⟩) hS ?_; rotate_left
                  ·have h := hX.2; go_simp; exact rfl
                  (try go_frame); refine wpAnyH_ready (rs := [7]) (by kernel_rfl) (by simp) ?_
                  refine arH (o := ⟨some 156, _, _, _, _, none⟩) rfl fun K hK => ?_
                  go_simp
                  refine (AcR.write H33.out hw2 HZ.out (byts_kept HBD.out H33.out.fin) (by have := HDN.out; omega)).mono ?_
                  rintro e w7 ⟨n1, x1, rfl, hn1, hw7⟩
                  have HW7 := Lib.hid hw7
                  refine hK.out _ _ ⟨hw7.xcell hw2, ((show Blk _ sb #[.int .i64 _, .int .i64 sw, .int .i64 sp, .int .i64 sn, .slice da dn dc, .int .u16 sl] 44 from HW7.out.get []).cellAt 4 rfl)⟩ (fun hS => ?_)
                  clear hK K
                  refine' tk 8 _ (some 148) rfl rfl (by kernel_rfl) (fun _ _ _ h => h) (Or.inl ⟨by rfl, fun X hX => ?_⟩) hS ?_; rotate_left
                  ·go_simp; exact rfl
                  (try go_frame); refine' tk 9 _ (some 157) rfl rfl (by kernel_rfl) (fun _ _ _ h => h) (Or.inl ⟨by rfl, fun X hX => ?_⟩) hS ?_; rotate_left
                  ·go_simp; exact rfl
                  (try go_frame); refine' tk 10 _ (some 158) rfl rfl (by kernel_rfl) (fun _ _ _ h => h) (Or.inl ⟨by rfl, fun X hX => ?_⟩) hS ?_; rotate_left
                  ·go_simp; exact rfl
                  (try go_frame); refine' tk 11 _ (some 20) rfl rfl (by kernel_rfl) (fun _ _ _ h => h) (Or.inl ⟨by rfl, fun X hX => ?_⟩) hS ?_; rotate_left
                  ·go_simp; exact rfl
                  (try go_frame)
                  as_aux_lemma =>
                  refine' tk 12 _ (some 21) rfl rfl (by kernel_rfl) (fun _ _ _ h => h) (Or.inl ⟨by rfl, fun X hX => ?_⟩) hS ?_; rotate_left
                  ·go_simp; exact rfl
                  (try go_frame); refine wpAnyH_done (by kernel_rfl) ?_ _
                  have hn1d : n1 ≤ dn := by have := HDN.out; omega
                  have hn1c : n1 ≤ dc := by have := HDC.out; omega
                  have s4w : w7.cell? ⟨sb, 4, none⟩ = some (.slice da dn dc) := hS.2
                  have tn1 : decide ((dn : Int) < (n1 : Int)) = false := decide_eq_false (by omega)
                  have tn1' : decide (dn < n1) = false := decide_eq_false (by omega)
                  clear hS
                  go_upto_region 36 with fail
                  clear s4w tn1 tn1'
                  have H36 := Lib.hid (HW7.out.still (Mod.refl (fun _ => False) w7).drew)
                  obtain ⟨ca, cn, cc, ua, un, uc, w8', hc36, hr36, hfz, hc2, hk8, hat⟩ := H36.out.app hw2 (sv := .slice da n1 dc) (byts_takeO (byts_kept HBD.out H36.out.fin) (by have := HDN.out; omega)) (by rw [List.length_take]; have := HDN.out; omega) 42
                  have HR36 := Lib.hid hr36
                  have HAT := Lib.hid hat
                  have HK8 := Lib.hid (hk8 _ _ _ (show Blk _ sb #[.int .i64 _, .int .i64 sw, .int .i64 sp, .int .i64 sn, .slice da dn dc, .int .u16 sl] 44 from H36.out.get []) (by decide))
                  have HFZ := Lib.hid hfz
                  have HC2 := Lib.hid hc2
                  clear hr36 hat hk8 hfz hc2
                  refine wp_region_last (S := fun X => X.cell? ⟨b8, w * 3 + k, none⟩ = some (.slice ca cn cc) ∧ X.cell? ⟨sb, 4, none⟩ = some (.slice da dn dc)) 14 (by kernel_rfl) ⟨hc36, ((show Blk _ sb #[.int .i64 _, .int .i64 sw, .int .i64 sp, .int .i64 sn, .slice da dn dc, .int .u16 sl] 44 from H36.out.get []).cellAt 4 rfl)⟩ (fun hS => ?_)
                  clear hc36
                  generalize w7.drew = Y36 at *
                  as_aux_lemma =>
                  refine' tkL 0 _ (some 164) rfl rfl (by kernel_rfl) (fun _ _ _ h => h) (Or.inl ⟨by rfl, fun X hX => ?_⟩) hS ?_; rotate_left
                  ·go_simp; exact rfl
                  (try go_frame); refine' tkL 1 _ (some 165) rfl rfl (by kernel_rfl) (fun _ _ _ h => h) (Or.inl ⟨by rfl, fun X hX => ?_⟩) hS ?_; rotate_left
                  ·go_simp; exact rfl
                  (try go_frame); refine' tkL 2 _ (some 166) rfl rfl (by kernel_rfl) (fun _ _ _ h => h) (Or.inl ⟨by rfl, fun X hX => ?_⟩) hS ?_; rotate_left
                  ·go_simp; exact rfl
                  (try go_frame); refine' tkL 3 _ (some 167) rfl rfl (by kernel_rfl) (fun _ _ _ h => h) (Or.inl ⟨by rfl, fun X hX => ?_⟩) hS ?_; rotate_left
                  ·go_simp; exact rfl
                  (try go_frame); refine' tkL 4 _ (some 168) rfl rfl (by kernel_rfl) (fun _ _ _ h => h) (Or.inl ⟨by rfl, fun X hX => ?_⟩) hS ?_; rotate_left
                  ·go_simp; exact rfl
                  (try go_frame); refine' tkL 5 _ (some 169) rfl rfl (by kernel_rfl) (fun _ _ _ h => h) (Or.inl ⟨by rfl, fun X hX => ?_⟩) hS ?_; rotate_left
                  ·go_simp; exact rfl
                  (try go_frame)
                  as_aux_lemma =>
                  refine' tkL 6 _ (some 170) rfl rfl (by kernel_rfl) (fun _ _ _ h => h) (Or.inl ⟨by rfl, fun X hX => ?_⟩) hS ?_; rotate_left
                  ·have h := hX.1; go_simp; exact rfl
                  (try go_frame); refine' tkL 7 _ (some 171) rfl rfl (by kernel_rfl) (fun _ _ _ h => h) (Or.inl ⟨by rfl, fun X hX => ?_⟩) hS ?_; rotate_left
                  ·go_simp; exact rfl
                  (try go_frame); refine' tkL 8 _ (some 172) rfl rfl (by kernel_rfl) (fun _ _ _ h => h) (Or.inl ⟨by rfl, fun X hX => ?_⟩) hS ?_; rotate_left
                  ·have h := hX.2; go_simp; exact rfl
                  (try go_frame); refine' tkL 9 _ (some 173) rfl rfl (by kernel_rfl) (fun _ _ _ h => h) (Or.inl ⟨by rfl, fun X hX => ?_⟩) hS ?_; rotate_left
                  ·go_simp; exact rfl
                  (try go_frame); refine' tkL 10 _ (some 174) rfl rfl (by kernel_rfl) (fun _ _ _ h => h) (Or.inl ⟨by rfl, fun X hX => ?_⟩) hS ?_; rotate_left
                  ·go_simp; exact rfl
                  (try go_frame); refine' tkL 12 _ (some 176) rfl rfl (by kernel_rfl) (fun _ _ _ h => h) (Or.inl ⟨by rfl, fun X hX => ?_⟩) hS ?_; rotate_left
                  ·go_simp; exact rfl
                  (try go_frame)
                  as_aux_lemma =>
                  refine wpAnyL.ready (rs := [11]) (by kernel_rfl) (by simp) ?_
                  refine (AllReadyL.cons (o := ⟨some 175, _, _, _, _, none⟩) rfl (by decide) (fun K hK => ?_) AllReadyL.nil)
                  refine step_val rfl (exec_app (s := .tmp 170) (x := .tmp 174) rfl rfl rfl HR36.out) ?_
                  refine hK.out _ _ ⟨HC2.out, HK8.out.cellAt 4 rfl⟩ (fun hS => ?_)
                  clear hK K
                  refine' tkL 13 _ (some 177) rfl rfl (by kernel_rfl) (fun _ _ _ h => h) (Or.inl ⟨by rfl, fun X hX => ?_⟩) hS ?_; rotate_left
                  ·go_simp; exact rfl
                  (try go_frame); refine wpAnyL.ready (rs := [14]) (by kernel_rfl) (by simp) ?_
                  refine AllReadyL.closing (o := ⟨none, _, _, _, _, none⟩) rfl (fun K hK => ?_)
                  have e0 := HC2.out
                  have e1 := HFZ.out
                  go_simp
                  refine hK.out _ _ ?_
                  clear hK K e0 e1
                  refine wpAnyL.done (by kernel_rfl) ?_ _
                  go_wp2_with fail
                  go_meet
                  exact Lib.hid (HAT.out.more (by omega))
                ·have tk0 : (sk == 0) = false := by simp [k0]
                 have tk0' : decide (sk = 0) = false := decide_eq_false k0
                 by_cases k1 : sk = 1
                 ·subst k1
                  have cx := HA1y.out.xcell hw2
                  have HFI := Lib.hid (HA1y.out.finish hw2 HZ.out)
                  go_wp2_with (first
                   | (go_at_call 22; (with_reducible refine HFI.out.mono ?_); rintro e w7 ⟨x7, rfl, hw7⟩; have HW7 := Lib.hid hw7; clear hw7)
                   | fail)
                  go_meet
                  exact Lib.hid (HW7.out.more (by omega))
                 ·have tk1 : (sk == 1) = false := by simp [k1]
                  have tk1' : decide (sk = 1) = false := decide_eq_false k1
                  by_cases k2 : sk = 2
                  ·subst k2
                   as_aux_lemma =>
                    obtain ⟨w1, hw1⟩ : ∃ w1, 1 - w = w1 := ⟨_, rfl⟩
                    have hw12 : w1 < 2 := by omega
                    have hwi1 : (w1 : Int) < 2 := by omega
                    have uw : IntKind.i64.wrap (1 - (w : Int)) = (w1 : Int) := by rw [IntWalk.i64_in _ (by omega)]; omega
                    go_upto_region 40 with fail
                    have H40 := Lib.hid (HA1y.out.still (Mod.refl (fun _ => False) Y29).drew)
                    refine wp_region_held_drew (S := fun X => X.cell? ⟨bx, w1, none⟩ = some (.pointer (some ⟨tbf w1, 0, none⟩)) ∧ X.cell? ⟨sb, 3, none⟩ = some (.int .i64 sn)) (by kernel_rfl) ⟨H40.out.xcell hw12, ((show Blk _ sb #[.int .i64 _, .int .i64 sw, .int .i64 sp, .int .i64 sn, .slice da dn dc, .int .u16 sl] 44 from H40.out.get []).cellAt 3 rfl)⟩ (fun hS => ?_)
                    generalize Y29.drew = Y40 at *
                    as_aux_lemma =>
                    refine' tk 0 _ (some 189) rfl rfl (by kernel_rfl) (fun _ _ _ h => h) (Or.inl ⟨by rfl, fun X hX => ?_⟩) hS ?_; rotate_left
                    ·go_simp; exact rfl
                    (try go_frame); refine' tk 1 _ (some 190) rfl rfl (by kernel_rfl) (fun _ _ _ h => h) (Or.inl ⟨by rfl, fun X hX => ?_⟩) hS ?_; rotate_left
                    ·go_simp; exact rfl
                    (try go_frame); refine' tk 2 _ (some 191) rfl rfl (by kernel_rfl) (fun _ _ _ h => h) (Or.inl ⟨by rfl, fun X hX => ?_⟩) hS ?_; rotate_left
                    ·go_simp; exact rfl
                    (try go_frame); refine' tk 3 _ (some 192) rfl rfl (by kernel_rfl) (fun _ _ _ h => h) (Or.inl ⟨by rfl, fun X hX => ?_⟩) hS ?_; rotate_left
                    ·go_simp; exact rfl
                    (try go_frame); refine' tk 4 _ (some 193) rfl rfl (by kernel_rfl) (fun _ _ _ h => h) (Or.inl ⟨by rfl, fun X hX => ?_⟩) hS ?_; rotate_left
                    ·have h := hX.1; go_simp; exact rfl
                    (try go_frame); refine' tk 5 _ (some 194) rfl rfl (by kernel_rfl) (fun _ _ _ h => h) (Or.inl ⟨by rfl, fun X hX => ?_⟩) hS ?_; rotate_left
                    ·go_simp; exact rfl
                    (try go_frame)
                    as_aux_lemma =>
                    refine' tk 6 _ (some 195) rfl rfl (by kernel_rfl) (fun _ _ _ h => h) (Or.inl ⟨by rfl, fun X hX => ?_⟩) hS ?_; rotate_left
                    ·go_simp; exact rfl
                    (try go_frame); refine' tk 7 _ (some 196) rfl rfl (by kernel_rfl) (fun _ _ _ h => h) (Or.inl ⟨by rfl, fun X hX => ?_⟩) hS ?_; rotate_left
                    ·have h := hX.2; go_simp; exact rfl
                    (try go_frame); refine wpAnyH_ready (rs := [8]) (by kernel_rfl) (by simp) ?_
                    refine arH (o := ⟨some 197, _, _, _, _, none⟩) rfl fun K hK => ?_
                    go_simp
                    have hrd := AcR.read H40.out (by omega) hw2 HZ.out sn (by omega)
                    rw [hw1] at hrd
                    refine hrd.mono ?_
                    rintro e w7 ⟨ra, rc, x7, y7, rl, rfl, hw7⟩
                    have HW7 := Lib.hid hw7
                    refine hK.out _ _ ⟨hw7.xcell hw12, ((show Blk _ sb #[.int .i64 _, .int .i64 sw, .int .i64 sp, .int .i64 sn, .slice da dn dc, .int .u16 sl] 44 from HW7.out.get [_]).cellAt 3 rfl)⟩ (fun hS => ?_)
                    clear hK K hrd
                    refine' tk 9 _ (some 188) rfl rfl (by kernel_rfl) (fun _ _ _ h => h) (Or.inl ⟨by rfl, fun X hX => ?_⟩) hS ?_; rotate_left
                    ·go_simp; exact rfl
                    (try go_frame); refine' tk 10 _ (some 198) rfl rfl (by kernel_rfl) (fun _ _ _ h => h) (Or.inl ⟨by rfl, fun X hX => ?_⟩) hS ?_; rotate_left
                    ·go_simp; exact rfl
                    (try go_frame); refine' tk 11 _ (some 199) rfl rfl (by kernel_rfl) (fun _ _ _ h => h) (Or.inl ⟨by rfl, fun X hX => ?_⟩) hS ?_; rotate_left
                    ·go_simp; exact rfl
                    (try go_frame)
                    as_aux_lemma =>
                    refine' tk 12 _ (some 200) rfl rfl (by kernel_rfl) (fun _ _ _ h => h) (Or.inl ⟨by rfl, fun X hX => ?_⟩) hS ?_; rotate_left
                    ·go_simp; exact rfl
                    (try go_frame); refine' tk 13 _ (some 22) rfl rfl (by kernel_rfl) (fun _ _ _ h => h) (Or.inl ⟨by rfl, fun X hX => ?_⟩) hS ?_; rotate_left
                    ·go_simp; exact rfl
                    (try go_frame); refine' tk 14 _ (some 23) rfl rfl (by kernel_rfl) (fun _ _ _ h => h) (Or.inl ⟨by rfl, fun X hX => ?_⟩) hS ?_; rotate_left
                    ·go_simp; exact rfl
                    (try go_frame); refine' tk 15 _ (some 24) rfl rfl (by kernel_rfl) (fun _ _ _ h => h) (Or.inl ⟨by rfl, fun X hX => ?_⟩) hS ?_; rotate_left
                    ·go_simp; exact rfl
                    (try go_frame); refine wpAnyH_done (by kernel_rfl) ?_ _
                    clear hS
                    go_upto_region 41 with fail
                    have H41 := Lib.hid (HW7.out.still (Mod.refl (fun _ => False) w7).drew)
                    obtain ⟨ca, cn, cc, ua, un, uc, w8', hc41, hr41, hfz, hc2, hat⟩ := H41.out.app hw2 42
                    have HR41 := Lib.hid hr41
                    have HAT := Lib.hid hat
                    have HFZ := Lib.hid hfz
                    have HC2 := Lib.hid hc2
                    clear hr41 hat hfz hc2
                    refine wp_region_last (S := fun X => X.cell? ⟨b8 + 1, w * 3 + k, none⟩ = some (.slice ca cn cc) ∧ True) 11 (by kernel_rfl) ⟨hc41, trivial⟩ (fun hS => ?_)
                    clear hc41
                    generalize w7.drew = Y41 at *
                    as_aux_lemma =>
                    refine' tkL 0 _ (some 201) rfl rfl (by kernel_rfl) (fun _ _ _ h => h) (Or.inl ⟨by rfl, fun X hX => ?_⟩) hS ?_; rotate_left
                    ·go_simp; exact rfl
                    (try go_frame); refine' tkL 1 _ (some 202) rfl rfl (by kernel_rfl) (fun _ _ _ h => h) (Or.inl ⟨by rfl, fun X hX => ?_⟩) hS ?_; rotate_left
                    ·go_simp; exact rfl
                    (try go_frame); refine' tkL 2 _ (some 203) rfl rfl (by kernel_rfl) (fun _ _ _ h => h) (Or.inl ⟨by rfl, fun X hX => ?_⟩) hS ?_; rotate_left
                    ·go_simp; exact rfl
                    (try go_frame); refine' tkL 3 _ (some 204) rfl rfl (by kernel_rfl) (fun _ _ _ h => h) (Or.inl ⟨by rfl, fun X hX => ?_⟩) hS ?_; rotate_left
                    ·go_simp; exact rfl
                    (try go_frame); refine' tkL 4 _ (some 205) rfl rfl (by kernel_rfl) (fun _ _ _ h => h) (Or.inl ⟨by rfl, fun X hX => ?_⟩) hS ?_; rotate_left
                    ·go_simp; exact rfl
                    (try go_frame); refine' tkL 5 _ (some 206) rfl rfl (by kernel_rfl) (fun _ _ _ h => h) (Or.inl ⟨by rfl, fun X hX => ?_⟩) hS ?_; rotate_left
                    ·go_simp; exact rfl
                    (try go_frame)
                    as_aux_lemma =>
                    refine' tkL 6 _ (some 207) rfl rfl (by kernel_rfl) (fun _ _ _ h => h) (Or.inl ⟨by rfl, fun X hX => ?_⟩) hS ?_; rotate_left
                    ·have h := hX.1; go_simp; exact rfl
                    (try go_frame); refine' tkL 7 _ (some 208) rfl rfl (by kernel_rfl) (fun _ _ _ h => h) (Or.inl ⟨by rfl, fun X hX => ?_⟩) hS ?_; rotate_left
                    ·go_simp; exact rfl
                    (try go_frame); refine' tkL 9 _ (some 210) rfl rfl (by kernel_rfl) (fun _ _ _ h => h) (Or.inl ⟨by rfl, fun X hX => ?_⟩) hS ?_; rotate_left
                    ·go_simp; exact rfl
                    (try go_frame); refine wpAnyL.ready (rs := [8]) (by kernel_rfl) (by simp) ?_
                    refine (AllReadyL.cons (o := ⟨some 209, _, _, _, _, none⟩) rfl (by decide) (fun K hK => ?_) AllReadyL.nil)
                    refine step_val rfl (exec_app (s := .tmp 207) (x := .tmp 208) rfl rfl rfl HR41.out) ?_
                    refine hK.out _ _ ⟨HC2.out, trivial⟩ (fun hS => ?_)
                    clear hK K
                    refine' tkL 10 _ (some 211) rfl rfl (by kernel_rfl) (fun _ _ _ h => h) (Or.inl ⟨by rfl, fun X hX => ?_⟩) hS ?_; rotate_left
                    ·go_simp; exact rfl
                    (try go_frame); refine wpAnyL.ready (rs := [11]) (by kernel_rfl) (by simp) ?_
                    refine AllReadyL.closing (o := ⟨none, _, _, _, _, none⟩) rfl (fun K hK => ?_)
                    have e0 := HC2.out
                    have e1 := HFZ.out
                    go_simp
                    refine hK.out _ _ ?_
                    clear hK K e0 e1
                    as_aux_lemma =>
                    refine wpAnyL.done (by kernel_rfl) ?_ _
                    go_wp2_with fail
                    go_meet
                    exact Lib.hid (HAT.out.more (by omega))
                  ·have tk2 : (sk == 2) = false := by simp [k2]
                   have tk2' : decide (sk = 2) = false := decide_eq_false k2
                   by_cases k3 : sk = 3
                   ·subst k3
                    as_aux_lemma =>
                     go_upto_region 43 with fail
                     have H43 := Lib.hid (HA1y.out.still (Mod.refl (fun _ => False) Y29).drew)
                     refine wp_region_held_drew (S := fun X => X.cell? ⟨bx, w, none⟩ = some (.pointer (some ⟨tbf w, 0, none⟩)) ∧ X.cell? ⟨sb, 3, none⟩ = some (.int .i64 sn)) (by kernel_rfl) ⟨H43.out.xcell hw2, ((show Blk _ sb #[.int .i64 _, .int .i64 sw, .int .i64 sp, .int .i64 sn, .slice da dn dc, .int .u16 sl] 44 from H43.out.get []).cellAt 3 rfl)⟩ (fun hS => ?_)
                     generalize Y29.drew = Y43 at *
                     as_aux_lemma =>
                     refine' tk 0 _ (some 214) rfl rfl (by kernel_rfl) (fun _ _ _ h => h) (Or.inl ⟨by rfl, fun X hX => ?_⟩) hS ?_; rotate_left
                     ·go_simp; exact rfl
                     (try go_frame); refine' tk 1 _ (some 215) rfl rfl (by kernel_rfl) (fun _ _ _ h => h) (Or.inl ⟨by rfl, fun X hX => ?_⟩) hS ?_; rotate_left
                     ·go_simp; exact rfl
                     (try go_frame); refine' tk 2 _ (some 216) rfl rfl (by kernel_rfl) (fun _ _ _ h => h) (Or.inl ⟨by rfl, fun X hX => ?_⟩) hS ?_; rotate_left
                     ·go_simp; exact rfl
                     (try go_frame); refine' tk 3 _ (some 217) rfl rfl (by kernel_rfl) (fun _ _ _ h => h) (Or.inl ⟨by rfl, fun X hX => ?_⟩) hS ?_; rotate_left
                     ·have h := hX.1; go_simp; exact rfl
                     (try go_frame); refine' tk 4 _ (some 218) rfl rfl (by kernel_rfl) (fun _ _ _ h => h) (Or.inl ⟨by rfl, fun X hX => ?_⟩) hS ?_; rotate_left
                     ·go_simp; exact rfl
                     (try go_frame); refine' tk 5 _ (some 219) rfl rfl (by kernel_rfl) (fun _ _ _ h => h) (Or.inl ⟨by rfl, fun X hX => ?_⟩) hS ?_; rotate_left
                     ·have h := hX.2; go_simp; exact rfl
                     (try go_frame)
                     as_aux_lemma =>
                     refine wpAnyH_ready (rs := [6]) (by kernel_rfl) (by simp) ?_
                     refine arH (o := ⟨some 220, _, _, _, _, none⟩) rfl fun K hK => ?_
                     go_simp
                     refine (AcR.frames H43.out HT.out hw2 sn ⟨HSPN.out.2.1, by omega⟩).mono ?_
                     rintro e w7 ⟨ha, hc, D, E, L, F, rfl, hw7, hlen⟩
                     have HW7 := Lib.hid hw7
                     refine hK.out _ _ ⟨hw7.xcell hw2, ((show Blk _ sb #[.int .i64 _, .int .i64 sw, .int .i64 sp, .int .i64 sn, .slice da dn dc, .int .u16 sl] 44 from HW7.out.get []).cellAt 3 rfl)⟩ (fun hS => ?_)
                     clear hK K
                     refine' tk 7 _ (some 25) rfl rfl (by kernel_rfl) (fun _ _ _ h => h) (Or.inl ⟨by rfl, fun X hX => ?_⟩) hS ?_; rotate_left
                     ·go_simp; exact rfl
                     (try go_frame); refine wpAnyH_done (by kernel_rfl) ?_ _
                     clear hS
                     generalize hm : L.length = m at *
                     have HM := Lib.hid hm
                     clear hm
                     go_wp2_with fail
                     go_loopg [26] m (fun gk s26 wr => ∃ j : Nat, j ≤ m ∧ gk = m - j ∧ s26 = .int .i64 j ∧ Hid (AcF W wr [blkTh sb #[.int .i64 3, .int .i64 sw, .int .i64 sp, .int .i64 sn, .slice da dn dc, .int .u16 sl] 44, blkTh W.heap.size (pmC p) 29, blkTh (W.heap.size + 1) (pmC q) 29] bx b8 tbf mbf VI pdf ids (2000 * i) w D E ha m hc L F))
                     case atStart => exact ⟨0, by omega, by omega, rfl, Lib.hid HW7.out⟩
                     case round =>
                      as_aux_lemma =>
                      obtain ⟨j, hj, rfl, rfl, HJ⟩ := hrel
                      by_cases hjm : j < m
                      ·obtain ⟨f, hf⟩ : ∃ f, L[j]? = some f := ⟨_, List.getElem?_eq_getElem (by rw [HM.out]; exact hjm)⟩
                       obtain ⟨g4, vd, rfl, hvd, -⟩ := HJ.out.frame hw2 hf
                       have HF4 := Lib.hid hf
                       have HVD := Lib.hid hvd
                       clear hf hvd
                       have tj : decide ((j : Int) < (m : Int)) = true := decide_eq_true (by omega)
                       have tj' : decide (j < m) = true := decide_eq_true hjm
                       have sb5 : wr.cell? ⟨sb, 5, none⟩ = some (.int .u16 sl) := ((show Blk _ sb #[.int .i64 _, .int .i64 sw, .int .i64 sp, .int .i64 sn, .slice da dn dc, .int .u16 sl] 44 from HJ.out.get []).cellAt 5 rfl)
                       obtain ⟨r, hr, hr16⟩ : ∃ r : Nat, Int.tmod (j : Int) 16 = (r : Int) ∧ r < 16 := ⟨j % 16, by rw [Int.tmod_eq_emod_of_nonneg (by omega)]; omega, Nat.mod_lt _ (by decide)⟩
                       have ur : IntKind.i64.wrap (r : Int) = (r : Int) := IntWalk.i64_in _ (by omega)
                       have ur2 : IntKind.u64.wrap (r : Int) = (r : Int) := IntWalk.u64_in _ (by omega)
                       have hr0 : ¬ (r : Int) < 0 := by omega
                       have hji : (j : Int) < (m : Int) := by omega
                       go_upto_region 47 with fail
                       go_cut [234] (fun s234 wx => ∃ bb : Bool, s234 = .bool bb ∧ wx = wr)
                       case first =>
                        go_wp2_with fail
                        go_meet
                        exact ⟨_, rfl, rfl⟩
                       case rest =>
                       as_aux_lemma =>
                       obtain ⟨bb, rfl, rfl⟩ := hcut
                       clear sb5 hr ur ur2 hr0 hr16
                       cases bb with
                       | true =>
                        as_aux_lemma =>
                        go_upto_region 48 with fail
                        have H48 := Lib.hid (HJ.out.still (Mod.refl (fun _ => False) wc).drew)
                        refine wp_region_held_drew (S := fun X => X.cell? ⟨bx, w, none⟩ = some (.pointer (some ⟨tbf w, 0, none⟩)) ∧ (Instr.loadAt 52 (.pointer (some ⟨g4, j * 24, none⟩))).run Tryz.prog X = .ok (.agg (frC f vd nilS)) X) (by kernel_rfl) ⟨H48.out.xcell hw2, H48.out.frame2 hw2 HF4.out HVD.out⟩ (fun hS => ?_)
                        generalize wc.drew = Y48 at *
                        as_aux_lemma =>
                        refine' tk 0 _ (some 235) rfl rfl (by kernel_rfl) (fun _ _ _ h => h) (Or.inl ⟨by rfl, fun X hX => ?_⟩) hS ?_; rotate_left
                        ·go_simp; exact rfl
                        (try go_frame); refine' tk 1 _ (some 236) rfl rfl (by kernel_rfl) (fun _ _ _ h => h) (Or.inl ⟨by rfl, fun X hX => ?_⟩) hS ?_; rotate_left
                        ·go_simp; exact rfl
                        (try go_frame); refine' tk 2 _ (some 237) rfl rfl (by kernel_rfl) (fun _ _ _ h => h) (Or.inl ⟨by rfl, fun X hX => ?_⟩) hS ?_; rotate_left
                        ·go_simp; exact rfl
                        (try go_frame); refine' tk 3 _ (some 238) rfl rfl (by kernel_rfl) (fun _ _ _ h => h) (Or.inl ⟨by rfl, fun X hX => ?_⟩) hS ?_; rotate_left
                        ·have h := hX.1; go_simp; exact rfl
                        (try go_frame); refine' tk 4 _ (some 239) rfl rfl (by kernel_rfl) (fun _ _ _ h => h) (Or.inl ⟨by rfl, fun X hX => ?_⟩) hS ?_; rotate_left
                        ·go_simp; exact rfl
                        (try go_frame); refine' tk 5 _ (some 240) rfl rfl (by kernel_rfl) (fun _ _ _ h => h) (Or.inl ⟨by rfl, fun X hX => ?_⟩) hS ?_; rotate_left
                        ·go_simp; exact rfl
                        (try go_frame)
                        as_aux_lemma =>
                        refine' tk 6 _ (some 241) rfl rfl (by kernel_rfl) (fun _ _ _ h => h) (Or.inl ⟨by rfl, fun X hX => ?_⟩) hS ?_; rotate_left
                        ·go_simp; exact rfl
                        (try go_frame); refine tk 7 (.agg (frC f vd nilS)) (some 242) rfl rfl (by kernel_rfl) (fun _ _ _ h => h) (Or.inl ⟨by rfl, fun X hX => ?_⟩) hS ?_
                        ·exact exec_ldz (x := .tmp 241) rfl rfl hX.2
                        (try go_frame); refine wpAnyH_ready (rs := [8]) (by kernel_rfl) (by simp) ?_
                        refine arH (o := ⟨some 243, _, _, _, _, none⟩) rfl fun K hK => ?_
                        go_simp
                        have hcl := AcF.lost H48.out hw2 HF4.out HVD.out
                        refine hcl.mono ?_
                        rintro e w8 ⟨rfl, hw8⟩
                        have HW8 := Lib.hid hw8
                        refine hK.out _ _ ⟨hw8.xcell hw2, hw8.frame2 hw2 HF4.out HVD.out⟩ (fun hS => ?_)
                        clear hK K hcl hw8
                        refine wpAnyH_done (by kernel_rfl) ?_ _
                        clear hS
                        as_aux_lemma =>
                        go_wp2_with fail
                        go_roundg (m - (j + 1))
                        case measure => omega
                        case rel => exact ⟨j + 1, by omega, rfl, by simp, HW8⟩
                       | false =>
                        as_aux_lemma =>
                        obtain ⟨w1, hw1⟩ : ∃ w1, 1 - w = w1 := ⟨_, rfl⟩
                        have hw12 : w1 < 2 := by omega
                        have hwi1 : (w1 : Int) < 2 := by omega
                        have uw : IntKind.i64.wrap (1 - (w : Int)) = (w1 : Int) := by rw [IntWalk.i64_in _ (by omega)]; omega
                        go_upto_region 49 with fail
                        have H49 := Lib.hid (HJ.out.still (Mod.refl (fun _ => False) wc).drew)
                        refine wp_region_held_drew (S := fun X => X.cell? ⟨bx, w1, none⟩ = some (.pointer (some ⟨tbf w1, 0, none⟩)) ∧ (Instr.loadAt 52 (.pointer (some ⟨g4, j * 24, none⟩))).run Tryz.prog X = .ok (.agg (frC f vd nilS)) X) (by kernel_rfl) ⟨H49.out.xcell hw12, H49.out.frame2 hw2 HF4.out HVD.out⟩ (fun hS => ?_)
                        generalize wc.drew = Y49 at *
                        as_aux_lemma =>
                        refine' tk 0 _ (some 244) rfl rfl (by kernel_rfl) (fun _ _ _ h => h) (Or.inl ⟨by rfl, fun X hX => ?_⟩) hS ?_; rotate_left
                        ·go_simp; exact rfl
                        (try go_frame); refine' tk 1 _ (some 245) rfl rfl (by kernel_rfl) (fun _ _ _ h => h) (Or.inl ⟨by rfl, fun X hX => ?_⟩) hS ?_; rotate_left
                        ·go_simp; exact rfl
                        (try go_frame); refine' tk 2 _ (some 246) rfl rfl (by kernel_rfl) (fun _ _ _ h => h) (Or.inl ⟨by rfl, fun X hX => ?_⟩) hS ?_; rotate_left
                        ·go_simp; exact rfl
                        (try go_frame); refine' tk 3 _ (some 247) rfl rfl (by kernel_rfl) (fun _ _ _ h => h) (Or.inl ⟨by rfl, fun X hX => ?_⟩) hS ?_; rotate_left
                        ·go_simp; exact rfl
                        (try go_frame); refine' tk 4 _ (some 248) rfl rfl (by kernel_rfl) (fun _ _ _ h => h) (Or.inl ⟨by rfl, fun X hX => ?_⟩) hS ?_; rotate_left
                        ·have h := hX.1; go_simp; exact rfl
                        (try go_frame); refine' tk 5 _ (some 249) rfl rfl (by kernel_rfl) (fun _ _ _ h => h) (Or.inl ⟨by rfl, fun X hX => ?_⟩) hS ?_; rotate_left
                        ·go_simp; exact rfl
                        (try go_frame)
                        as_aux_lemma =>
                        refine' tk 6 _ (some 250) rfl rfl (by kernel_rfl) (fun _ _ _ h => h) (Or.inl ⟨by rfl, fun X hX => ?_⟩) hS ?_; rotate_left
                        ·go_simp; exact rfl
                        (try go_frame); refine' tk 7 _ (some 251) rfl rfl (by kernel_rfl) (fun _ _ _ h => h) (Or.inl ⟨by rfl, fun X hX => ?_⟩) hS ?_; rotate_left
                        ·go_simp; exact rfl
                        (try go_frame); refine tk 8 (.agg (frC f vd nilS)) (some 252) rfl rfl (by kernel_rfl) (fun _ _ _ h => h) (Or.inl ⟨by rfl, fun X hX => ?_⟩) hS ?_
                        ·exact exec_ldz (x := .tmp 251) rfl rfl hX.2
                        (try go_frame); refine wpAnyH_ready (rs := [9]) (by kernel_rfl) (by simp) ?_
                        refine arH (o := ⟨some 253, _, _, _, _, none⟩) rfl fun K hK => ?_
                        go_simp
                        have hcl := AcF.take H49.out hw2 HF4.out HVD.out
                        rw [hw1] at hcl
                        refine hcl.mono ?_
                        rintro e w8 ⟨rfl, hw8⟩
                        have HW8 := Lib.hid hw8
                        refine hK.out _ _ ⟨hw8.xcell hw12, hw8.frame2 hw2 HF4.out HVD.out⟩ (fun hS => ?_)
                        clear hK K hcl hw8
                        refine' tk 10 _ (some 254) rfl rfl (by kernel_rfl) (fun _ _ _ h => h) (Or.inl ⟨by rfl, fun X hX => ?_⟩) hS ?_; rotate_left
                        ·go_simp; exact rfl
                        (try go_frame); refine wpAnyH_done (by kernel_rfl) ?_ _
                        clear hS
                        as_aux_lemma =>
                        go_upto_region 51 with fail
                        have H51 := Lib.hid (HW8.out.still (Mod.refl (fun _ => False) w8).drew)
                        refine wp_region_held_drew (S := fun X => X.cell? ⟨bx, w, none⟩ = some (.pointer (some ⟨tbf w, 0, none⟩)) ∧ (Instr.loadAt 52 (.pointer (some ⟨g4, j * 24, none⟩))).run Tryz.prog X = .ok (.agg (frC f vd nilS)) X) (by kernel_rfl) ⟨H51.out.xcell hw2, H51.out.frame2 hw2 HF4.out HVD.out⟩ (fun hS => ?_)
                        generalize w8.drew = Y51 at *
                        as_aux_lemma =>
                        refine' tk 0 _ (some 255) rfl rfl (by kernel_rfl) (fun _ _ _ h => h) (Or.inl ⟨by rfl, fun X hX => ?_⟩) hS ?_; rotate_left
                        ·go_simp; exact rfl
                        (try go_frame); refine' tk 1 _ (some 256) rfl rfl (by kernel_rfl) (fun _ _ _ h => h) (Or.inl ⟨by rfl, fun X hX => ?_⟩) hS ?_; rotate_left
                        ·go_simp; exact rfl
                        (try go_frame); refine' tk 2 _ (some 257) rfl rfl (by kernel_rfl) (fun _ _ _ h => h) (Or.inl ⟨by rfl, fun X hX => ?_⟩) hS ?_; rotate_left
                        ·go_simp; exact rfl
                        (try go_frame); refine' tk 3 _ (some 258) rfl rfl (by kernel_rfl) (fun _ _ _ h => h) (Or.inl ⟨by rfl, fun X hX => ?_⟩) hS ?_; rotate_left
                        ·have h := hX.1; go_simp; exact rfl
                        (try go_frame); refine' tk 4 _ (some 259) rfl rfl (by kernel_rfl) (fun _ _ _ h => h) (Or.inl ⟨by rfl, fun X hX => ?_⟩) hS ?_; rotate_left
                        ·go_simp; exact rfl
                        (try go_frame); refine' tk 5 _ (some 260) rfl rfl (by kernel_rfl) (fun _ _ _ h => h) (Or.inl ⟨by rfl, fun X hX => ?_⟩) hS ?_; rotate_left
                        ·go_simp; exact rfl
                        (try go_frame)
                        as_aux_lemma =>
                        refine' tk 6 _ (some 261) rfl rfl (by kernel_rfl) (fun _ _ _ h => h) (Or.inl ⟨by rfl, fun X hX => ?_⟩) hS ?_; rotate_left
                        ·go_simp; exact rfl
                        (try go_frame); refine tk 7 (.agg (frC f vd nilS)) (some 262) rfl rfl (by kernel_rfl) (fun _ _ _ h => h) (Or.inl ⟨by rfl, fun X hX => ?_⟩) hS ?_
                        ·exact exec_ldz (x := .tmp 261) rfl rfl hX.2
                        (try go_frame); refine wpAnyH_ready (rs := [8]) (by kernel_rfl) (by simp) ?_
                        refine arH (o := ⟨some 263, _, _, _, _, none⟩) rfl fun K hK => ?_
                        go_simp
                        have hcl := AcF.acked H51.out hw2 HF4.out HVD.out
                        refine hcl.mono ?_
                        rintro e w9 ⟨rfl, hw9⟩
                        have HW9 := Lib.hid hw9
                        refine hK.out _ _ ⟨hw9.xcell hw2, hw9.frame2 hw2 HF4.out HVD.out⟩ (fun hS => ?_)
                        clear hK K hcl hw9
                        refine wpAnyH_done (by kernel_rfl) ?_ _
                        clear hS
                        as_aux_lemma =>
                        go_wp2_with fail
                        go_roundg (m - (j + 1))
                        case measure => omega
                        case rel => exact ⟨j + 1, by omega, rfl, by simp, HW9⟩
                      ·as_aux_lemma =>
                       have tj : decide ((j : Int) < (m : Int)) = false := decide_eq_false (by omega)
                       have tj' : decide (j < m) = false := decide_eq_false hjm
                       go_wp2_with fail
                       go_meet
                       exact Lib.hid (HJ.out.out.more (by omega))
                   ·have tk3 : (sk == 3) = false := by simp [k3]
                    have tk3' : decide (sk = 3) = false := decide_eq_false k3
                    go_wp2_with fail
                    go_meet
                    exact Lib.hid (HA1y.out.more (by omega))
               case rest =>
                as_aux_lemma =>
                 have HC := hcut
                 clear hcut
                 go_wp2_with fail
                 go_loopg [27] 2 (fun gk s27 wr => ∃ a : Nat, a ≤ 2 ∧ gk = 2 - a ∧ s27 = .int .i64 a ∧ Hid (AcR W wr [blkTh sb #[.int .i64 sk, .int .i64 sw, .int .i64 sp, .int .i64 sn, .slice da dn dc, .int .u16 sl] 44, blkTh W.heap.size (pmC p) 29, blkTh (W.heap.size + 1) (pmC q) 29] bx b8 tbf mbf VI pdf ids (2000 * (i + 1))))
                 case atStart => exact ⟨0, by omega, by omega, rfl, Lib.hid HC.out⟩
                 case round =>
                  as_aux_lemma =>
                  obtain ⟨a, ha2, rfl, rfl, H5⟩ := hrel
                  by_cases ha : a < 2
                  ·have ta : decide ((a : Int) < 2) = true := decide_eq_true (by omega)
                   have ta' : decide (a < 2) = true := decide_eq_true ha
                   go_wp2_with fail
                   go_loopg [28] 3 (fun gk s28 wr => ∃ c : Nat, c ≤ 3 ∧ gk = 3 - c ∧ s28 = .int .i64 c ∧ Hid (AcR W wr [blkTh sb #[.int .i64 sk, .int .i64 sw, .int .i64 sp, .int .i64 sn, .slice da dn dc, .int .u16 sl] 44, blkTh W.heap.size (pmC p) 29, blkTh (W.heap.size + 1) (pmC q) 29] bx b8 tbf mbf VI pdf ids (2000 * (i + 1))))
                   case atStart => exact ⟨0, by omega, by omega, rfl, Lib.hid H5.out⟩
                   case round =>
                    as_aux_lemma =>
                    obtain ⟨c, hc2, rfl, rfl, H6⟩ := hrel
                    by_cases hc : c < 3
                    ·have tc : decide ((c : Int) < 3) = true := decide_eq_true (by omega)
                     have tc' : decide (c < 3) = true := decide_eq_true hc
                     have hai : (a : Int) < 2 := by omega
                     have hci : (c : Int) < 3 := by omega
                     go_upto_region 58 with fail
                     have H58 := Lib.hid (H6.out.still (Mod.refl (fun _ => False) wr).drew)
                     obtain ⟨a8, n8, c8, a9, n9, c9, ll, e8, e9, hle, hn8, hc8, hg8, hb9, hb8⟩ := H58.out.test ha hc
                     have HB8 := Lib.hid hb8
                     have HB9 := Lib.hid hb9
                     refine wp_region_held_drew (S := fun X => X.cell? ⟨b8 + 1, a * 3 + c, none⟩ = some (.slice a9 n9 c9) ∧ X.cell? ⟨b8, a * 3 + c, none⟩ = some (.slice a8 n8 c8)) (by kernel_rfl) ⟨e9, e8⟩ (fun hS => ?_)
                     clear hb8 hb9 e8 e9
                     generalize wr.drew = Y58 at *
                     have tg : decide ((n8 : Int) < (n9 : Int)) = false := decide_eq_false (by omega)
                     have tg' : decide (n8 < n9) = false := decide_eq_false (by omega)
                     have hnc : n9 ≤ c8 := by omega
                     clear hn8 hc8 hg8 hle
                     as_aux_lemma =>
                     refine' tk 0 _ (some 272) rfl rfl (by kernel_rfl) (fun _ _ _ h => h) (Or.inl ⟨by rfl, fun X hX => ?_⟩) hS ?_; rotate_left
                     ·go_simp; exact rfl
                     (try go_frame); refine' tk 1 _ (some 273) rfl rfl (by kernel_rfl) (fun _ _ _ h => h) (Or.inl ⟨by rfl, fun X hX => ?_⟩) hS ?_; rotate_left
                     ·go_simp; exact rfl
                     (try go_frame); refine' tk 2 _ (some 274) rfl rfl (by kernel_rfl) (fun _ _ _ h => h) (Or.inl ⟨by rfl, fun X hX => ?_⟩) hS ?_; rotate_left
                     ·go_simp; exact rfl
                     (try go_frame); refine' tk 3 _ (some 275) rfl rfl (by kernel_rfl) (fun _ _ _ h => h) (Or.inl ⟨by rfl, fun X hX => ?_⟩) hS ?_; rotate_left
                     ·go_simp; exact rfl
                     (try go_frame); refine' tk 4 _ (some 276) rfl rfl (by kernel_rfl) (fun _ _ _ h => h) (Or.inl ⟨by rfl, fun X hX => ?_⟩) hS ?_; rotate_left
                     ·have h := hX.1; go_simp; exact rfl
                     (try go_frame); refine' tk 5 _ (some 277) rfl rfl (by kernel_rfl) (fun _ _ _ h => h) (Or.inl ⟨by rfl, fun X hX => ?_⟩) hS ?_; rotate_left
                     ·go_simp; exact rfl
                     (try go_frame)
                     as_aux_lemma =>
                     refine' tk 6 _ (some 278) rfl rfl (by kernel_rfl) (fun _ _ _ h => h) (Or.inl ⟨by rfl, fun X hX => ?_⟩) hS ?_; rotate_left
                     ·go_simp; exact rfl
                     (try go_frame); refine' tk 7 _ (some 279) rfl rfl (by kernel_rfl) (fun _ _ _ h => h) (Or.inl ⟨by rfl, fun X hX => ?_⟩) hS ?_; rotate_left
                     ·go_simp; exact rfl
                     (try go_frame); refine' tk 8 _ (some 280) rfl rfl (by kernel_rfl) (fun _ _ _ h => h) (Or.inl ⟨by rfl, fun X hX => ?_⟩) hS ?_; rotate_left
                     ·go_simp; exact rfl
                     (try go_frame); refine' tk 9 _ (some 281) rfl rfl (by kernel_rfl) (fun _ _ _ h => h) (Or.inl ⟨by rfl, fun X hX => ?_⟩) hS ?_; rotate_left
                     ·go_simp; exact rfl
                     (try go_frame); refine' tk 10 _ (some 282) rfl rfl (by kernel_rfl) (fun _ _ _ h => h) (Or.inl ⟨by rfl, fun X hX => ?_⟩) hS ?_; rotate_left
                     ·have h := hX.2; go_simp; exact rfl
                     (try go_frame); refine' tk 11 _ (some 283) rfl rfl (by kernel_rfl) (fun _ _ _ h => h) (Or.inl ⟨by rfl, fun X hX => ?_⟩) hS ?_; rotate_left
                     ·go_simp; exact rfl
                     (try go_frame)
                     as_aux_lemma =>
                     refine' tk 12 _ (some 284) rfl rfl (by kernel_rfl) (fun _ _ _ h => h) (Or.inl ⟨by rfl, fun X hX => ?_⟩) hS ?_; rotate_left
                     ·go_simp; exact rfl
                     (try go_frame); refine' tk 13 _ (some 285) rfl rfl (by kernel_rfl) (fun _ _ _ h => h) (Or.inl ⟨by rfl, fun X hX => ?_⟩) hS ?_; rotate_left
                     ·go_simp; exact rfl
                     (try go_frame); refine' tk 14 _ (some 286) rfl rfl (by kernel_rfl) (fun _ _ _ h => h) (Or.inl ⟨by rfl, fun X hX => ?_⟩) hS ?_; rotate_left
                     ·go_simp; exact rfl
                     (try go_frame); refine' tk 15 _ (some 287) rfl rfl (by kernel_rfl) (fun _ _ _ h => h) (Or.inl ⟨by rfl, fun X hX => ?_⟩) hS ?_; rotate_left
                     ·go_simp; exact rfl
                     (try go_frame); refine' tk 16 _ (some 288) rfl rfl (by kernel_rfl) (fun _ _ _ h => h) (Or.inl ⟨by rfl, fun X hX => ?_⟩) hS ?_; rotate_left
                     ·go_simp; exact rfl
                     (try go_frame); refine' tk 17 _ (some 289) rfl rfl (by kernel_rfl) (fun _ _ _ h => h) (Or.inl ⟨by rfl, fun X hX => ?_⟩) hS ?_; rotate_left
                     ·go_simp; exact rfl
                     (try go_frame)
                     as_aux_lemma =>
                     refine' tk 18 _ (some 290) rfl rfl (by kernel_rfl) (fun _ _ _ h => h) (Or.inl ⟨by rfl, fun X hX => ?_⟩) hS ?_; rotate_left
                     ·have h := hX.1; go_simp; exact rfl
                     (try go_frame); refine' tk 19 _ (some 291) rfl rfl (by kernel_rfl) (fun _ _ _ h => h) (Or.inl ⟨by rfl, fun X hX => ?_⟩) hS ?_; rotate_left
                     ·go_simp; exact rfl
                     (try go_frame); refine' tk 20 _ (some 292) rfl rfl (by kernel_rfl) (fun _ _ _ h => h) (Or.inl ⟨by rfl, fun X hX => ?_⟩) hS ?_; rotate_left
                     ·go_simp; exact rfl
                     (try go_frame); refine' tk 21 _ (some 293) rfl rfl (by kernel_rfl) (fun _ _ _ h => h) (Or.inl ⟨by rfl, fun X hX => ?_⟩) hS ?_; rotate_left
                     ·go_simp; exact rfl
                     (try go_frame); refine' tk 22 _ (some 294) rfl rfl (by kernel_rfl) (fun _ _ _ h => h) (Or.inl ⟨by rfl, fun X hX => ?_⟩) hS ?_; rotate_left
                     ·go_simp; exact rfl
                     (try go_frame); refine' tk 23 _ (some 295) rfl rfl (by kernel_rfl) (fun _ _ _ h => h) (Or.inl ⟨by rfl, fun X hX => ?_⟩) hS ?_; rotate_left
                     ·have h := hX.2; go_simp; exact rfl
                     (try go_frame)
                     as_aux_lemma =>
                     refine' tk 24 _ (some 296) rfl rfl (by kernel_rfl) (fun _ _ _ h => h) (Or.inl ⟨by rfl, fun X hX => ?_⟩) hS ?_; rotate_left
                     ·go_simp; exact rfl
                     (try go_frame); refine' tk 25 _ (some 297) rfl rfl (by kernel_rfl) (fun _ _ _ h => h) (Or.inl ⟨by rfl, fun X hX => ?_⟩) hS ?_; rotate_left
                     ·go_simp; exact rfl
                     (try go_frame); refine' tk 26 _ (some 298) rfl rfl (by kernel_rfl) (fun _ _ _ h => h) (Or.inl ⟨by rfl, fun X hX => ?_⟩) hS ?_; rotate_left
                     ·go_simp; exact rfl
                     (try go_frame); refine' tk 27 _ (some 299) rfl rfl (by kernel_rfl) (fun _ _ _ h => h) (Or.inl ⟨by rfl, fun X hX => ?_⟩) hS ?_; rotate_left
                     ·go_simp; exact rfl
                     (try go_frame); refine' tk 28 _ (some 300) rfl rfl (by kernel_rfl) (fun _ _ _ h => h) (Or.inl ⟨by rfl, fun X hX => ?_⟩) hS ?_; rotate_left
                     ·have h := hX.1; go_simp; exact rfl
                     (try go_frame); refine' tk 29 _ (some 301) rfl rfl (by kernel_rfl) (fun _ _ _ h => h) (Or.inl ⟨by rfl, fun X hX => ?_⟩) hS ?_; rotate_left
                     ·go_simp; exact rfl
                     (try go_frame)
                     as_aux_lemma =>
                     refine' tk 30 _ (some 302) rfl rfl (by kernel_rfl) (fun _ _ _ h => h) (Or.inl ⟨by rfl, fun X hX => ?_⟩) hS ?_; rotate_left
                     ·go_simp; exact rfl
                     (try go_frame); refine wpAnyH_ready (rs := [31]) (by kernel_rfl) (by simp) ?_
                     refine arH (o := ⟨some 303, _, _, _, _, some (13, false)⟩) rfl fun K hK => ?_
                     go_simp
                     refine (same_any HB9.out HB8.out).mono ?_
                     rintro e w7 ⟨⟨q7, rfl⟩, rfl⟩
                     refine hK.out _ _ hS (fun hS => ?_)
                     clear hK K
                     refine' tk 32 _ (some 304) rfl rfl (by kernel_rfl) (fun _ _ _ h => h) (Or.inl ⟨by rfl, fun X hX => ?_⟩) hS ?_; rotate_left
                     ·go_simp; exact rfl
                     (try go_frame); refine' tk 33 _ (some 305) rfl rfl (by kernel_rfl) (fun _ _ _ h => h) (Or.inl ⟨by rfl, fun X hX => ?_⟩) hS ?_; rotate_left
                     ·go_simp; exact rfl
                     (try go_frame); refine wpAnyH_done (by kernel_rfl) ?_ _
                     go_wp2_with fail
                     go_roundg (3 - (c + 1))
                     case measure => omega
                     case rel => exact ⟨c + 1, by omega, rfl, by simp, Lib.hid (H58.out.still ((Mod.refl _ _).drewN _))⟩
                    ·as_aux_lemma =>
                     have tc : decide ((c : Int) < 3) = false := decide_eq_false (by omega)
                     have tc' : decide (c < 3) = false := decide_eq_false hc
                     go_wp2_with fail
                     go_roundg (2 - (a + 1))
                     case measure => omega
                     case rel => exact ⟨a + 1, by omega, rfl, by simp, H6⟩
                  ·as_aux_lemma =>
                   have ta : decide ((a : Int) < 2) = false := decide_eq_false (by omega)
                   have ta' : decide (a < 2) = false := decide_eq_false ha
                   go_wp2_with fail
                   go_roundg (n - (i + 1))
                   case measure => omega
                   case rel => exact ⟨i + 1, by omega, rfl, by simp, Lib.hid H5.out.drop⟩
            ·have td : decide ((300 : Int) < (dn : Int)) = true := decide_eq_true (by omega)
             have td' : decide (300 < dn) = true := decide_eq_true (by omega)
             as_aux_lemma =>
             go_wp2_with fail
             go_ret
             exact ⟨rfl, Mod.none_belowX HA1.out.fin⟩
         ·as_aux_lemma =>
          have ti : decide ((i : Int) < (n : Int)) = false := decide_eq_false (by omega)
          have ti' : decide (i < n) = false := decide_eq_false hin
          have HAL2 := Lib.hid (alive_any wr (HI.out.fin.tabs HT.out (fun h => h)))
          go_wp2_with (first
           | (go_at_call 7; (with_reducible refine HAL2.out.mono ?_); rintro e w9 ⟨rfl, hm⟩; have HM9 := Lib.hid hm; clear hm)
           | fail)
          go_ret
          exact ⟨rfl, Mod.none_belowX (HI.out.fin.trans HM9.out)⟩
     | false =>
      as_aux_lemma =>
      rw [hmq] at HMAYq
      clear h80 hs hsq hm hmq
      generalize l.length = n at *
      go_enter Tryz.func6, Tryz.ntmps6
      go_wp2_with (first
       | (go_at_call 7; (with_reducible refine HAL.out.mono ?_); rintro e w0 ⟨rfl, hm⟩; have HM0 := Lib.hid (HMW.out.trans hm); have HMZ0 := Lib.hid hm; have HP0 := Lib.hid (hm.blk HBX.out (fun h => h)); have HQ0 := Lib.hid (hm.blk HBY.out (fun h => h)); have c2 : w0.cell? ⟨W.heap.size, 2, none⟩ = some (.int .u64 (p.s : Int)) := HP0.out.cellAt 2 rfl; have c2q : w0.cell? ⟨W.heap.size + 1, 2, none⟩ = some (.int .u64 (q.s : Int)) := HQ0.out.cellAt 2 rfl; have HL0 := Lib.hid (blk_load_pm HP0.out H16.out); clear hm)
       | ((with_reducible refine wpList_load_g 29 (.tmp 3) ?_ ?_ (.pointer (some ⟨W.heap.size, 0, none⟩)) (.agg (pmC p)) ?_ HL0.out ?_); (iterate 3 exact rfl))
       | (go_at_call 13; (with_reducible refine (HMAY.out _).mono ?_); rintro e w1 ⟨rfl, hm⟩; have HM1 := Lib.hid (HM0.out.trans hm); have HMZ1 := Lib.hid (HMZ0.out.trans hm); have HP1 := Lib.hid (hm.blk HP0.out (fun h => h)); have HQ1 := Lib.hid (hm.blk HQ0.out (fun h => h)); have HL1 := Lib.hid (blk_load_pm HQ1.out H16q.out); clear hm)
       | ((with_reducible refine wpList_load_g 29 (.tmp 4) ?_ ?_ (.pointer (some ⟨W.heap.size + 1, 0, none⟩)) (.agg (pmC q)) ?_ HL1.out ?_); (iterate 3 exact rfl))
       | (go_at_call 13; (with_reducible refine (HMAYq.out _).mono ?_); rintro e w2 ⟨rfl, hm⟩; have HMZ2 := Lib.hid (HMZ1.out.trans hm); clear hm)
       | fail)
      go_ret
      exact ⟨rfl, Mod.none_belowX (HMW.out.trans HMZ2.out)⟩
    | false =>
     as_aux_lemma =>
     rw [hm] at HMAY
     clear h80 hs hsq hm
     generalize l.length = n at *
     go_enter Tryz.func6, Tryz.ntmps6
     go_wp2_with (first
      | (go_at_call 7; (with_reducible refine HAL.out.mono ?_); rintro e w0 ⟨rfl, hm⟩; have HM0 := Lib.hid (HMW.out.trans hm); have HMZ0 := Lib.hid hm; have HP0 := Lib.hid (hm.blk HBX.out (fun h => h)); have HQ0 := Lib.hid (hm.blk HBY.out (fun h => h)); have c2 : w0.cell? ⟨W.heap.size, 2, none⟩ = some (.int .u64 (p.s : Int)) := HP0.out.cellAt 2 rfl; have c2q : w0.cell? ⟨W.heap.size + 1, 2, none⟩ = some (.int .u64 (q.s : Int)) := HQ0.out.cellAt 2 rfl; have HL0 := Lib.hid (blk_load_pm HP0.out H16.out); clear hm)
      | ((with_reducible refine wpList_load_g 29 (.tmp 3) ?_ ?_ (.pointer (some ⟨W.heap.size, 0, none⟩)) (.agg (pmC p)) ?_ HL0.out ?_); (iterate 3 exact rfl))
      | (go_at_call 13; (with_reducible refine (HMAY.out _).mono ?_); rintro e w1 ⟨rfl, hm⟩; have HM1 := Lib.hid (HM0.out.trans hm); have HMZ1 := Lib.hid (HMZ0.out.trans hm); have HP1 := Lib.hid (hm.blk HP0.out (fun h => h)); have HQ1 := Lib.hid (hm.blk HQ0.out (fun h => h)); have HL1 := Lib.hid (blk_load_pm HQ1.out H16q.out); clear hm)
      | fail)
     go_ret
     exact ⟨rfl, Mod.none_belowX (HM1.out)⟩
   ·as_aux_lemma =>
    have t3 : decide ((5000 : Int) < (q.s : Int)) = true := decide_eq_true (by omega)
    have t3' : decide (5000 < q.s) = true := decide_eq_true (by omega)
    clear h80 hs hsq
    generalize l.length = n at *
    go_enter Tryz.func6, Tryz.ntmps6
    go_wp2_with (first
     | (go_at_call 7; (with_reducible refine HAL.out.mono ?_); rintro e w0 ⟨rfl, hm⟩; have HM0 := Lib.hid (HMW.out.trans hm); have HMZ0 := Lib.hid hm; have HP0 := Lib.hid (hm.blk HBX.out (fun h => h)); have HQ0 := Lib.hid (hm.blk HBY.out (fun h => h)); have c2 : w0.cell? ⟨W.heap.size, 2, none⟩ = some (.int .u64 (p.s : Int)) := HP0.out.cellAt 2 rfl; have c2q : w0.cell? ⟨W.heap.size + 1, 2, none⟩ = some (.int .u64 (q.s : Int)) := HQ0.out.cellAt 2 rfl; have HL0 := Lib.hid (blk_load_pm HP0.out H16.out); clear hm)
     | fail)
    go_ret
    exact ⟨rfl, Mod.none_belowX (HM0.out)⟩
  ·as_aux_lemma =>
   have t2 : decide ((5000 : Int) < (p.s : Int)) = true := decide_eq_true (by omega)
   have t2' : decide (5000 < p.s) = true := decide_eq_true (by omega)
   clear h80 hs
   generalize l.length = n at *
   go_enter Tryz.func6, Tryz.ntmps6
   go_wp2_with (first
    | (go_at_call 7; (with_reducible refine HAL.out.mono ?_); rintro e w0 ⟨rfl, hm⟩; have HM0 := Lib.hid (HMW.out.trans hm); have HMZ0 := Lib.hid hm; have HP0 := Lib.hid (hm.blk HBX.out (fun h => h)); have HQ0 := Lib.hid (hm.blk HBY.out (fun h => h)); have c2 : w0.cell? ⟨W.heap.size, 2, none⟩ = some (.int .u64 (p.s : Int)) := HP0.out.cellAt 2 rfl; have c2q : w0.cell? ⟨W.heap.size + 1, 2, none⟩ = some (.int .u64 (q.s : Int)) := HQ0.out.cellAt 2 rfl; have HL0 := Lib.hid (blk_load_pm HP0.out H16.out); clear hm)
    | fail)
   go_ret
   exact ⟨rfl, Mod.none_belowX (HM0.out)⟩
 ·as_aux_lemma =>
  have t1 : decide ((80 : Int) < (l.length : Int)) = true := decide_eq_true (by omega)
  have t1' : decide (80 < l.length) = true := decide_eq_true (by omega)
  clear h80
  generalize l.length = n at *
  go_enter Tryz.func6, Tryz.ntmps6
  go_wp2_with (first
   | (go_at_call 7; (with_reducible refine HAL.out.mono ?_); rintro e w0 ⟨rfl, hm⟩; have HM0 := Lib.hid (HMW.out.trans hm); have HMZ0 := Lib.hid hm; have HP0 := Lib.hid (hm.blk HBX.out (fun h => h)); have HQ0 := Lib.hid (hm.blk HBY.out (fun h => h)); have c2 : w0.cell? ⟨W.heap.size, 2, none⟩ = some (.int .u64 (p.s : Int)) := HP0.out.cellAt 2 rfl; have c2q : w0.cell? ⟨W.heap.size + 1, 2, none⟩ = some (.int .u64 (q.s : Int)) := HQ0.out.cellAt 2 rfl; have HL0 := Lib.hid (blk_load_pm HP0.out H16.out); clear hm)
   | fail)
  go_ret
  exact ⟨rfl, Mod.none_belowX (HM0.out)⟩
end Go.Proofs.YtolgeghdkoodnaaGreatDoor
