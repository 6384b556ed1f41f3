/- The frame that stands there: the program's Next. (printed by gengax.py) -/
import Derived.Test.YteegonadodmeeaaDoorGaI
import Derived.Test.YteegonadodmeeaaDoorGaW
namespace Go.Proofs.YteegonadodmeeaaDoor
open Go.RowKit Go.Maps

set_option maxRecDepth 10000 in
theorem known_any (t : Nat) (ht : t < 4611686018427387904) (w : World) : Calls Tryd.prog 93 #[.int .u64 (t : Int)] w fun e w' => w = w' ∧ e = .returned (.tuple #[.int .i64 (knownL t).1, .bool (knownL t).2]) := by
  have hi : (t : Int) < 4611686018427387904 := by omega
  obtain ⟨R, hR⟩ : ∃ R, R = knownL t := ⟨_, rfl⟩
  rw [← hR]
  unfold knownL at hR
  by_cases h1 : 8 ≤ t ∧ t < 16
  · rw [if_pos h1] at hR
    subst hR
    have a1 : (8 : Int) ≤ t := by omega
    have a2 : (t : Int) < 16 := by omega
    clear h1 ht hi
    go_enter Tryd.func93, Tryd.ntmps93
    go_wp2
    go_ret2
    exact ⟨rfl, rfl⟩
  · rw [if_neg h1] at hR
    by_cases h2 : t = 3
    · rw [if_pos h2] at hR
      subst hR h2
      clear h1 ht hi
      go_enter Tryd.func93, Tryd.ntmps93
      go_wp2
      go_ret2
      exact ⟨rfl, rfl⟩
    · rw [if_neg h2] at hR
      by_cases h3 : t = 19 ∨ t = 23 ∨ t = 29
      · rw [if_pos h3] at hR
        subst hR
        rcases h3 with rfl | rfl | rfl
        all_goals
          clear h1 h2 ht hi
          go_enter Tryd.func93, Tryd.ntmps93
          go_wp2
          go_ret2
          exact ⟨rfl, rfl⟩
      · rw [if_neg h3] at hR
        by_cases h4 : 30 < t
        · rw [if_pos h4] at hR
          subst hR
          have t3 : ((t : Int) == 3) = false := by simp; omega
          have t19 : ((t : Int) == 19) = false := by simp; omega
          have t23 : ((t : Int) == 23) = false := by simp; omega
          have t29 : ((t : Int) == 29) = false := by simp; omega
          have a4 : (30 : Int) < t := by omega
          have a8 : decide ((t : Int) < 16) = false := decide_eq_false (by omega)
          clear h1 h2 h3 h4 ht hi
          go_enter Tryd.func93, Tryd.ntmps93
          go_wp2
          go_ret2
          exact ⟨rfl, rfl⟩
        · rw [if_neg h4] at hR
          subst hR
          have t3 : ((t : Int) == 3) = false := by simp; omega
          have t19 : ((t : Int) == 19) = false := by simp; omega
          have t23 : ((t : Int) == 23) = false := by simp; omega
          have t29 : ((t : Int) == 29) = false := by simp; omega
          have a4 : (t : Int) ≤ 30 := by omega
          have hw : IntKind.i64.wrap (t : Int) = t := IntWalk.i64_in _ (by omega)
          by_cases h5 : (8 : Int) ≤ t
          · have a8 : decide ((t : Int) < 16) = false := decide_eq_false (by omega)
            clear h1 h2 h3 h4 ht hi
            go_enter Tryd.func93, Tryd.ntmps93
            go_wp2
            go_ret2
            exact ⟨rfl, rfl⟩
          · have a8 : decide ((8 : Int) ≤ t) = false := decide_eq_false (by omega)
            clear h1 h2 h3 h4 ht hi
            go_enter Tryd.func93, Tryd.ntmps93
            go_wp2
            go_ret2
            exact ⟨rfl, rfl⟩
/-- What Next gives. -/
def NextR (w : World) (rb : Nat) (R : Fr × RS) : Ending → World → Prop := fun e w' => ∃ vd vr, e = .returned (frV R.1 vd vr) ∧ OwnB w' w.heap.size vd R.1.d ∧ OwnR w' w.heap.size vr R.1.rs ∧ R.1.t.length = 16 ∧ Rdr w' rb R.2 ∧ Mod (fun k => k = rb) w w'
/-- The state of Next. -/
structure NxS (w0 w : World) (rb : Nat) (s : RS) (f : Fr) : Prop where
  res : Blk w w0.heap.size frZ 27
  fr : FrB w (w0.heap.size + 1) f (.slice none 0 0) (.slice none 0 0)
  kd : Blk w (w0.heap.size + 2) kdZ 48
  rd : Rdr w rb s
  lt : rb < w0.heap.size
  mod : Mod (fun j => j = rb) w0 w
theorem NxS.rd1 {w0 w w' : World} {rb : Nat} {s s' : RS} {f : Fr} (h : NxS w0 w rb s f) (hM : Mod (fun k => k = rb) w w') (hr : Rdr w' rb s') : NxS w0 w' rb s' f :=
  have := h.lt
  ⟨hM.blk h.res (by omega), ⟨hM.blk h.fr.blk (by omega), h.fr.len⟩, hM.blk h.kd (by omega), hr, h.lt, h.mod.trans hM⟩
theorem NxS.start {w : World} {rb : Nat} {s : RS} (h : Rdr w rb s) : NxS w (((w.alloc (.cells frZ 27)).alloc (.cells frZ 27)).alloc (.cells #[.nilFunc, .nilFunc, .nilFunc, .nilFunc] 48)) rb s Fr.zero := by
  have h1 := (Blk.new w frZ 27)
  have h2 := new2 w (.cells frZ 27) frZ 27
  have h3 := new2 (w.alloc (.cells frZ 27)) (.cells frZ 27) #[.nilFunc, .nilFunc, .nilFunc, .nilFunc] 48
  rw [show (w.alloc (.cells frZ 27)).heap.size = w.heap.size + 1 by simp] at h3
  have hM := ((((Mod.refl (fun _ => False) w).alloc (.cells frZ 27)).alloc (.cells frZ 27)).alloc (.cells #[.nilFunc, .nilFunc, .nilFunc, .nilFunc] 48))
  exact ⟨(h1.alloc _).alloc _, ⟨h2.alloc _, rfl⟩, h3, h.kept hM (fun _ _ h => h), h.lt, hM.mono (fun _ _ h => h.elim)⟩
theorem fr_setK5 (k : Int) (fl : Bool) : ((frC Fr.zero (.slice none 0 0) (.slice none 0 0)).setIfInBounds 0 (.int .i64 k)).setIfInBounds 5 (.bool fl) = frC (Fr.ofKind k fl) (.slice none 0 0) (.slice none 0 0) := by
  apply Array.toList_inj.1; simp [frC, frL, Fr.zero, Fr.ofKind]
theorem NxS.kind {w0 w : World} {rb : Nat} {s : RS} (h : NxS w0 w rb s Fr.zero) (k : Int) (fl : Bool) : NxS w0 ((w.setCell ⟨w0.heap.size + 1, 0, none⟩ (.int .i64 k)).setCell ⟨w0.heap.size + 1, 5, none⟩ (.bool fl)) rb s (Fr.ofKind k fl) := by
  have hM : Mod (fun j => j = w0.heap.size + 1) w ((w.setCell ⟨w0.heap.size + 1, 0, none⟩ (.int .i64 k)).setCell ⟨w0.heap.size + 1, 5, none⟩ (.bool fl)) := ((Mod.refl (fun j => j = w0.heap.size + 1) w).setCell (p := ⟨w0.heap.size + 1, 0, none⟩) (fun _ => rfl) _).setCell (p := ⟨w0.heap.size + 1, 5, none⟩) (fun _ => rfl) _
  have hlt := h.lt
  refine ⟨hM.blk h.res (by omega), ⟨fr_setK5 k fl ▸ (h.fr.blk.set 0 _).set 5 _, rfl⟩, hM.blk h.kd (by omega), hM.rdr h.rd (by omega) (fun b cs hb e => ?_), h.lt, h.mod.trans' hM (fun i hi e => by omega)⟩
  subst e
  exact h.fr.blk.ne hb (by decide) rfl
theorem size_frZ : (Tryd.prog.info? 27).map (·.size) = some frZ.size := by show _ = some 24; kernel_rfl
theorem frZ_one : ∀ v ∈ frZ.toList, v.oneCell' = true := by decide
theorem next_run {wz : World} {fn : Func} {tmps : Array Value} {b : Nat} {C : Array Value} (hf : fn.results = #[.cell 2 27]) (ha : tmps.getD 2 undef = .pointer (some ⟨b, 0, none⟩)) (hB : Blk wz b C 27) (hs : (Tryd.prog.info? 27).map (·.size) = some C.size) : (results fn tmps).run Tryd.prog wz = .ok (.agg C) wz :=
  results_cell hf tmps ha (blk_loadVar (P := Tryd.prog) hB Tryd.underlying27 rfl hs)
set_option maxHeartbeats 4000000 in
set_option maxRecDepth 10000 in
theorem next_bad {w : World} {rb : Nat} {s : RS} (h : Rdr w rb s) (he : s.int.2.e ≠ 0) : Calls Tryd.prog 34 #[.pointer (some ⟨rb, 0, none⟩)] w (NextR w rb (Fr.zero, s.int.2.fail 3)) := by
  have HS0 := Lib.hid (NxS.start h)
  have t1 : (s.int.2.e != 0) = true := by simpa using he
  clear h he
  go_enter Tryd.func34, Tryd.ntmps34
  go_wp2_with fail
  refine wp_scope_fwd ?_
  go_wp2_with fail
  refine (int_any HS0.out.rd).mono ?_
  rintro e w1 ⟨rfl, hr, hM⟩
  have HS1 := Lib.hid (HS0.out.rd1 hM hr)
  clear hr hM
  go_wp2_with fail
  refine (bad_any HS1.out.rd).mono ?_
  rintro e w2 ⟨rfl, rfl⟩
  go_wp2_with (first
    | (with_reducible refine wp_label ?_)
    | ((with_reducible refine wp_goto ?_); refine fwd_goto 0 rfl ?_)
    | fail)
  refine (fail_any 3 HS1.out.rd).mono ?_
  rintro e w3 ⟨rfl, hr, hM⟩
  have HS3 := Lib.hid (HS1.out.rd1 hM hr)
  clear hr hM
  go_wp2_with (first
    | ((with_reducible refine wpList_build_c ?_ 27 [] ?_ [] ?_ frZ ?_ ?_); (· exact rfl); (· exact rfl); (· exact rfl); (· kernel_rfl))
    | ((with_reducible refine wpList_store_blk ?_ 27 (.tmp 2) (.tmp 64) ?_ w.heap.size ?_ frZ frZ ?_ 27 HS3.out.res size_frZ rfl frZ_one ?_); (· exact rfl); (· exact rfl); (· exact rfl); (· exact rfl); intro w9 hB9 hM9; have HB9 := Lib.hid hB9; have HM9 := Lib.hid hM9; clear hB9 hM9)
    | fail)
  refine noGoto_ret ?_
  have hl := blk_loadVar (P := Tryd.prog) HB9.out Tryd.underlying27 rfl size_frZ
  refine bodyPost_ret (v := .agg frZ) ?_ rfl ⟨.slice none 0 0, .slice none 0 0, rfl, OwnB.nil _ _, OwnR.nil _ _, rfl, HM9.out.rdr HS3.out.rd (fun e => by have := HS3.out.lt; omega) (fun b cs hb e => by subst e; exact HS3.out.res.ne hb (by decide) rfl), HS3.out.mod.trans' HM9.out (fun i hi e => by omega)⟩
  exact results_cell Tryd.results34 _ rfl hl
/-- The state of Next behind the kind's look-up. -/
structure NxT (w0 w : World) (rb : Nat) (s : RS) (f : Fr) : Prop where
  res : Blk w w0.heap.size frZ 27
  fr : FrB w (w0.heap.size + 1) f (.slice none 0 0) (.slice none 0 0)
  rd : Rdr w rb s
  lt : rb < w0.heap.size
  mod : Mod (fun j => j = rb) w0 w
theorem NxT.nil {w0 w w' : World} {rb : Nat} {s : RS} {f : Fr} (h : NxT w0 w rb s f) (hM : Mod (fun _ => False) w w') : NxT w0 w' rb s f :=
  ⟨hM.blk h.res (fun h => h), h.fr.kept hM, h.rd.kept hM (fun _ _ h => h), h.lt, h.mod.trans (hM.mono (fun _ _ h => h.elim))⟩
theorem NxT.kd {w0 w w' : World} {rb : Nat} {s : RS} {f : Fr} (h : NxT w0 w rb s f) (hk : Blk w (w0.heap.size + 2) kdZ 48) (hM : Mod (fun k => k = w0.heap.size + 2) w w') : NxT w0 w' rb s f :=
  have := h.lt
  ⟨hM.blk h.res (by omega), ⟨hM.blk h.fr.blk (by omega), h.fr.len⟩, hM.rdr h.rd (by omega) (fun b cs hb e => by subst e; exact hk.ne hb (by decide) rfl), h.lt, h.mod.trans' hM (fun i hi e => by omega)⟩
theorem NxS.t {w0 w : World} {rb : Nat} {s : RS} {f : Fr} (h : NxS w0 w rb s f) : NxT w0 w rb s f := ⟨h.res, h.fr, h.rd, h.lt, h.mod⟩
theorem knownL_rng (t : Nat) : -1 ≤ (knownL t).1 ∧ (knownL t).1 ≤ 100 := by
  unfold knownL
  split
  · decide
  · split
    · decide
    · split
      · simp only; omega
      · split
        · decide
        · simp only; omega
set_option maxHeartbeats 8000000 in
set_option maxRecDepth 10000 in
theorem next_none {w : World} {rb : Nat} {s : RS} (h : Rdr w rb s) (he : s.int.2.e = 0) (hm : maskK (knownL s.int.1).1 = none) : Calls Tryd.prog 34 #[.pointer (some ⟨rb, 0, none⟩)] w (NextR w rb (Fr.zero, s.int.2.fail 3)) := by
  have HS0 := Lib.hid (NxS.start h)
  have t1 : (s.int.2.e != 0) = false := by simp [he]
  have HKN := Lib.hid (known_any s.int.1 (int_lt s))
  have HOK := Lib.hid (okKey_small (knownL_rng s.int.1).1 (knownL_rng s.int.1).2)
  have HEE := Lib.hid he
  have HKF := Lib.hid (kinds_none hm)
  clear hm
  clear h he
  go_enter Tryd.func34, Tryd.ntmps34
  go_wp2_with fail
  refine wp_scope_fwd ?_
  go_wp2_with fail
  refine (int_any HS0.out.rd).mono ?_
  rintro e w1 ⟨rfl, hr, hM⟩
  have HS1 := Lib.hid (HS0.out.rd1 hM hr)
  clear hr hM
  go_wp2_with fail
  refine (bad_any HS1.out.rd).mono ?_
  rintro e w2 ⟨rfl, rfl⟩
  obtain ⟨d0, d1, d2, d3, d4, d5, d6, d7⟩ := HS1.out.fr.cells
  have f0 := HS1.out.fr.blk.free 0
  have f5 := HS1.out.fr.blk.free 5
  generalize s.int.1 = t at *
  generalize s.int.2 = s1 at *
  generalize (knownL t).1 = k at *
  generalize (knownL t).2 = fl at *
  go_wp2_with fail
  refine (HKN.out _).mono ?_
  rintro e w3 ⟨rfl, rfl⟩
  go_wp2_with fail
  have HS4 := Lib.hid (HS1.out.kind k fl)
  clear d0 d1 d2 d3 d4 d5 d6 d7 f0 f5 HS0 HS1
  generalize (w1.setCell ⟨w.heap.size + 1, 0, none⟩ (.int .i64 k)).setCell ⟨w.heap.size + 1, 5, none⟩ (.bool fl) = w4 at *
  refine wp_region_held_drew (S := fun X => NxT w X rb s1 (Fr.ofKind k fl)) (by kernel_rfl) (HS4.out.t.nil (Mod.refl _ _).drew) (fun hS => ?_)
  refine takeH (i := 1) (v := .pointer (some ⟨w.heap.size + 1, 0, none⟩)) (some 21) rfl rfl (by kernel_rfl) (by kernel_rfl) (by kernel_rfl) (fun _ _ _ h => h) (Or.inl ⟨by rfl, fun X hX => ?_⟩) hS ?_
  · go_simp
  (try go_frame)
  refine takeH (i := 2) (v := .int .i64 k) (some 22) rfl rfl (by kernel_rfl) (by kernel_rfl) (by kernel_rfl) (fun _ _ _ h => h) (Or.inl ⟨by rfl, fun X hX => ?_⟩) hS ?_
  · have : X.cell? ⟨w.heap.size + 1, 0, none⟩ = some (.int .i64 k) := hX.fr.cells.1; go_simp
  (try go_frame)
  refine wpAnyH_ready (rs := [0]) (by kernel_rfl) (by simp) ?_
  refine AllReadyH.cons rfl (fun K hK => ?_) AllReadyH.nil
  go_simp
  refine (kinds_any _).mono ?_
  rintro e X1 ⟨mb, rfl, hV, hk1⟩
  have hlk := hV.look2 (t := 50) (e := 48) HOK.out Tryd.underlying50 (zero_kind X1)
  rw [HKF.out] at hlk
  simp only [Option.getD_none, Option.isSome_none, kvZ] at hlk
  have hkd := hk1.blk ((Mod.refl (fun _ => False) w4).drew.blk HS4.out.kd (fun h => h)) (fun h => h)
  refine hK.out _ _ (hS.nil hk1) (fun hS => ?_)
  clear hK K
  refine wpAnyH_ready (rs := [3]) (by kernel_rfl) (by simp) ?_
  refine AllReadyH.cons rfl (fun K hK => ?_) AllReadyH.nil
  go_simp
  refine hK.out _ _ hS (fun hS => ?_)
  clear hK K
  refine takeH (i := 4) (v := .tuple #[.agg #[.nilFunc, .nilFunc, .nilFunc, .nilFunc], .bool false]) (some 19) rfl rfl (by kernel_rfl) (by kernel_rfl) (by kernel_rfl) (fun _ _ _ h => h) (Or.inl ⟨by rfl, fun X hX => ?_⟩) hS ?_
  · go_simp
  (try go_frame)
  refine takeH (i := 5) (v := .agg #[.nilFunc, .nilFunc, .nilFunc, .nilFunc]) (some 24) rfl rfl (by kernel_rfl) (by kernel_rfl) (by kernel_rfl) (fun _ _ _ h => h) (Or.inl ⟨by rfl, fun X hX => ?_⟩) hS ?_
  · go_simp
  (try go_frame)
  refine takeH (i := 6) (v := .bool false) (some 25) rfl rfl (by kernel_rfl) (by kernel_rfl) (by kernel_rfl) (fun _ _ _ h => h) (Or.inl ⟨by rfl, fun X hX => ?_⟩) hS ?_
  · go_simp
  (try go_frame)
  refine wpAnyH_ready (rs := [7]) (by kernel_rfl) (by simp) ?_
  refine AllReadyH.cons rfl (fun K hK => ?_) AllReadyH.nil
  refine wp_store_blk 48 (.tmp 4) (.tmp 24) rfl (w.heap.size + 2) (by rfl) kdZ #[.nilFunc, .nilFunc, .nilFunc, .nilFunc] (by rfl) 48 hkd (sizeKd _ _ _ _) rfl kdZ_one ?_
  intro X9 hB9 hM9
  refine hK.out _ _ (hS.kd hkd hM9) (fun hS => ?_)
  clear hK K
  refine wpAnyH_ready (rs := [8]) (by kernel_rfl) (by simp) ?_
  refine AllReadyH.cons rfl (fun K hK => ?_) AllReadyH.nil
  go_simp
  refine hK.out _ _ hS (fun hS => ?_)
  clear hK K
  refine wpAnyH_done (by kernel_rfl) ?_ _
  have HS9 := Lib.hid hS
  have HB9k := Lib.hid hB9
  clear hS hB9 hM9 hkd hlk hV hk1
  go_wp2_with (first
    | (with_reducible refine wp_label ?_)
    | ((with_reducible refine wp_goto ?_); refine fwd_goto 0 rfl ?_)
    | fail)
  refine (fail_any 3 HS9.out.rd).mono ?_
  rintro e w8 ⟨rfl, hr, hM⟩
  have hlt := HS9.out.lt
  have HR8 := Lib.hid hr
  have HRS8 := Lib.hid (hM.blk HS9.out.res (by omega))
  have HM8 := Lib.hid (HS9.out.mod.trans hM)
  clear hr hM
  go_wp2_with (first
    | ((with_reducible refine wpList_build_c ?_ 27 [] ?_ [] ?_ frZ ?_ ?_); (· exact rfl); (· exact rfl); (· exact rfl); (· kernel_rfl))
    | ((with_reducible refine wpList_store_blk ?_ 27 (.tmp 2) (.tmp 64) ?_ w.heap.size ?_ frZ frZ ?_ 27 HRS8.out size_frZ rfl frZ_one ?_); (· exact rfl); (· exact rfl); (· exact rfl); (· exact rfl); intro w9 hB9 hM9; have HB9 := Lib.hid hB9; have HM9 := Lib.hid hM9; clear hB9 hM9)
    | fail)
  refine noGoto_ret ?_
  have hl := blk_loadVar (P := Tryd.prog) HB9.out Tryd.underlying27 rfl size_frZ
  refine bodyPost_ret (v := .agg frZ) ?_ rfl ⟨.slice none 0 0, .slice none 0 0, rfl, OwnB.nil _ _, OwnR.nil _ _, rfl, HM9.out.rdr HR8.out (fun e => by omega) (fun b cs hb e => by subst e; exact HRS8.out.ne hb (by decide) rfl), HM8.out.trans' HM9.out (fun i hi e => by omega)⟩
  exact results_cell Tryd.results34 _ rfl hl
theorem RdS.start {w X : World} {rb : Nat} {s : RS} {f : Fr} (h : NxT w X rb s f) (hd : f.d = []) (hr : f.rs = []) : RdS X X rb (w.heap.size + 1) s f (.slice none 0 0) (.slice none 0 0) :=
  have := h.lt
  have := h.mod.size
  ⟨h.rd, h.fr, by rw [hd]; exact OwnB.nil _ _, by rw [hr]; exact OwnR.nil _ _, Mod.refl _ _, by omega, h.fr.blk.lt, by omega⟩
theorem nextK_bad {t : Nat} {R : Fr × RS} (h : ¬ ((three t R.2).e = 0 ∧ rightF R.1 = true)) : nextK t R = (Fr.zero, (three t R.2).fail 3) := by unfold nextK; rw [if_neg h]
theorem nextK_good {t : Nat} {R : Fr × RS} (h1 : (three t R.2).e = 0) (h2 : rightF R.1 = true) : nextK t R = (R.1, three t R.2) := by unfold nextK; rw [if_pos ⟨h1, h2⟩]
theorem three_no {t : Nat} (h : t ≠ 3) (s : RS) : three t s = s := by unfold three; rw [if_neg h]
theorem three_yes (s : RS) : three 3 s = s.int.2.int.2.int.2 := rfl
/-- What is asked of a frame that was read. -/
structure Rdy (f : Fr) : Prop where
  dl : (f.d.length : Int) ≤ 140737488355328
  rl : (f.rs.length : Int) ≤ 100000
  k : okKey f.k
  ro : RngOk f
theorem RdS.frv {w0 w : World} {rb fb : Nat} {s : RS} {f : Fr} {vd vr : Value} (h : RdS w0 w rb fb s f vd vr) (hq : Rdy f) : FrV w f vd vr := ⟨h.od.byts, h.or.rgv, h.fr.len, hq.dl, by have := hq.rl; omega⟩
theorem kd_one4 (fn1 fn2 fn4 : Nat) {v3 : Value} (h3 : v3.oneCell' = true) : ∀ v ∈ (#[fnV fn1, fnV fn2, v3, fnV fn4] : Array Value).toList, v.oneCell' = true := kd_one fn1 fn2 h3 rfl
set_option maxHeartbeats 16000000 in
set_option maxRecDepth 10000 in
theorem next_def {w : World} {rb : Nat} {s : RS} (h : Rdr w rb s) (he : s.int.2.e = 0) (h8 : (knownL s.int.1).1 ≠ 8) (h0 : (knownL s.int.1).1 ≠ 0) {fn1 fn2 fn4 : Nat} {v3 : Value} (hkf : kindsF (knownL s.int.1).1 = some (.agg #[fnV fn1, fnV fn2, v3, fnV fn4])) (o3 : v3.oneCell' = true) (en4 : Enter fn4) {rd : Fr → RS → Fr × RS}
    (hrd : Reads fn4 rd) (hl : (s.int.2.l.length : Int) ≤ 10000000) (hq : Rdy (rd (Fr.ofKind (knownL s.int.1).1 (knownL s.int.1).2) s.int.2).1) :
    Calls Tryd.prog 34 #[.pointer (some ⟨rb, 0, none⟩)] w (NextR w rb (nextK s.int.1 (rd (Fr.ofKind (knownL s.int.1).1 (knownL s.int.1).2) s.int.2))) := by
  have HS0 := Lib.hid (NxS.start h)
  have t1 : (s.int.2.e != 0) = false := by simp [he]
  have HKN := Lib.hid (known_any s.int.1 (int_lt s))
  have HOK := Lib.hid (okKey_small (knownL_rng s.int.1).1 (knownL_rng s.int.1).2)
  have HEE := Lib.hid he
  have HKF := Lib.hid hkf
  have HON := Lib.hid (kd_one4 fn1 fn2 fn4 o3)
  have HRD := Lib.hid hrd
  have HLL := Lib.hid hl
  have HQ := Lib.hid hq
  have t8 : ((knownL s.int.1).1 == 8) = false := by simpa using h8
  have t0 : ((knownL s.int.1).1 == 0) = false := by simpa using h0
  unfold Enter at en4
  clear hkf o3 hrd hl hq h8 h0
  clear h he
  go_enter Tryd.func34, Tryd.ntmps34
  go_wp2_with fail
  refine wp_scope_fwd ?_
  go_wp2_with fail
  refine (int_any HS0.out.rd).mono ?_
  rintro e w1 ⟨rfl, hr, hM⟩
  have HS1 := Lib.hid (HS0.out.rd1 hM hr)
  clear hr hM
  go_wp2_with fail
  refine (bad_any HS1.out.rd).mono ?_
  rintro e w2 ⟨rfl, rfl⟩
  obtain ⟨d0, d1, d2, d3, d4, d5, d6, d7⟩ := HS1.out.fr.cells
  have f0 := HS1.out.fr.blk.free 0
  have f5 := HS1.out.fr.blk.free 5
  generalize s.int.1 = t at *
  generalize s.int.2 = s1 at *
  generalize (knownL t).1 = k at *
  generalize (knownL t).2 = fl at *
  go_wp2_with fail
  refine (HKN.out _).mono ?_
  rintro e w3 ⟨rfl, rfl⟩
  go_wp2_with fail
  have HS4 := Lib.hid (HS1.out.kind k fl)
  clear d0 d1 d2 d3 d4 d5 d6 d7 f0 f5 HS0 HS1
  generalize (w1.setCell ⟨w.heap.size + 1, 0, none⟩ (.int .i64 k)).setCell ⟨w.heap.size + 1, 5, none⟩ (.bool fl) = w4 at *
  refine wp_region_held_drew (S := fun X => NxT w X rb s1 (Fr.ofKind k fl)) (by kernel_rfl) (HS4.out.t.nil (Mod.refl _ _).drew) (fun hS => ?_)
  refine takeH (i := 1) (v := .pointer (some ⟨w.heap.size + 1, 0, none⟩)) (some 21) rfl rfl (by kernel_rfl) (by kernel_rfl) (by kernel_rfl) (fun _ _ _ h => h) (Or.inl ⟨by rfl, fun X hX => ?_⟩) hS ?_
  · go_simp
  (try go_frame)
  refine takeH (i := 2) (v := .int .i64 k) (some 22) rfl rfl (by kernel_rfl) (by kernel_rfl) (by kernel_rfl) (fun _ _ _ h => h) (Or.inl ⟨by rfl, fun X hX => ?_⟩) hS ?_
  · have : X.cell? ⟨w.heap.size + 1, 0, none⟩ = some (.int .i64 k) := hX.fr.cells.1; go_simp
  (try go_frame)
  refine wpAnyH_ready (rs := [0]) (by kernel_rfl) (by simp) ?_
  refine AllReadyH.cons rfl (fun K hK => ?_) AllReadyH.nil
  go_simp
  refine (kinds_any _).mono ?_
  rintro e X1 ⟨mb, rfl, hV, hk1⟩
  have hlk := hV.look2 (t := 50) (e := 48) HOK.out Tryd.underlying50 (zero_kind X1)
  rw [HKF.out] at hlk
  simp only [Option.getD_some, Option.isSome_some] at hlk
  have hkd := hk1.blk ((Mod.refl (fun _ => False) w4).drew.blk HS4.out.kd (fun h => h)) (fun h => h)
  refine hK.out _ _ (hS.nil hk1) (fun hS => ?_)
  clear hK K
  refine wpAnyH_ready (rs := [3]) (by kernel_rfl) (by simp) ?_
  refine AllReadyH.cons rfl (fun K hK => ?_) AllReadyH.nil
  go_simp
  refine hK.out _ _ hS (fun hS => ?_)
  clear hK K
  refine takeH (i := 4) (v := .tuple #[.agg #[fnV fn1, fnV fn2, v3, fnV fn4], .bool true]) (some 19) rfl rfl (by kernel_rfl) (by kernel_rfl) (by kernel_rfl) (fun _ _ _ h => h) (Or.inl ⟨by rfl, fun X hX => ?_⟩) hS ?_
  · go_simp
  (try go_frame)
  refine takeH (i := 5) (v := .agg #[fnV fn1, fnV fn2, v3, fnV fn4]) (some 24) rfl rfl (by kernel_rfl) (by kernel_rfl) (by kernel_rfl) (fun _ _ _ h => h) (Or.inl ⟨by rfl, fun X hX => ?_⟩) hS ?_
  · go_simp
  (try go_frame)
  refine takeH (i := 6) (v := .bool true) (some 25) rfl rfl (by kernel_rfl) (by kernel_rfl) (by kernel_rfl) (fun _ _ _ h => h) (Or.inl ⟨by rfl, fun X hX => ?_⟩) hS ?_
  · go_simp
  (try go_frame)
  refine wpAnyH_ready (rs := [7]) (by kernel_rfl) (by simp) ?_
  refine AllReadyH.cons rfl (fun K hK => ?_) AllReadyH.nil
  refine wp_store_blk 48 (.tmp 4) (.tmp 24) rfl (w.heap.size + 2) (by rfl) kdZ #[fnV fn1, fnV fn2, v3, fnV fn4] (by rfl) 48 hkd (sizeKd _ _ _ _) rfl HON.out ?_
  intro X9 hB9 hM9
  refine hK.out _ _ (hS.kd hkd hM9) (fun hS => ?_)
  clear hK K
  refine wpAnyH_ready (rs := [8]) (by kernel_rfl) (by simp) ?_
  refine AllReadyH.cons rfl (fun K hK => ?_) AllReadyH.nil
  go_simp
  refine hK.out _ _ hS (fun hS => ?_)
  clear hK K
  refine wpAnyH_done (by kernel_rfl) ?_ _
  have HS9 := Lib.hid hS
  have HB9k := Lib.hid hB9
  clear hS hB9 hM9 hkd hlk hV hk1
  have HLT := Lib.hid HS9.out.lt
  have HX9 := Lib.hid HS9.out.mod.size
  have HX99 := Lib.hid HS9.out.fr.blk.lt
  have k3 : X9.cell? ⟨w.heap.size + 2, 3, none⟩ = some (.func (.func fn4) #[] #[]) := HB9k.out.cellAt 3 rfl
  have c0 : X9.cell? ⟨w.heap.size + 1, 0, none⟩ = some (.int .i64 k) := HS9.out.fr.cells.1
  go_wp2_with fail
  refine (HRD.out X9 rb (w.heap.size + 1) s1 (Fr.ofKind k fl) (.slice none 0 0) (.slice none 0 0) (RdS.start HS9.out rfl rfl) HLL.out).mono ?_
  rintro e Y ⟨rfl, vd, vr, hY⟩
  have HY := Lib.hid hY
  have HRES := Lib.hid (hY.mod.blk HS9.out.res (by have := HLT.out; omega))
  have HMW := Lib.hid (HS9.out.mod.trans' hY.mod (fun i hi e => by omega))
  clear hY k3 c0
  generalize rd (Fr.ofKind k fl) s1 = R at *
  obtain ⟨fR, sR⟩ := R
  simp only at HY HQ
  by_cases ht3 : t = 3
  case neg =>
    have HT := Lib.hid ht3
    have t3 : ((t : Int) == 3) = false := by simp; omega
    clear ht3
    obtain ⟨s3, hs3⟩ : ∃ s3, s3 = sR := ⟨_, rfl⟩
    rw [← hs3] at HY
    have HT3 : Hid (three t sR = s3) := by show _ = _; rw [hs3]; exact three_no HT.out sR
    clear hs3
    go_wp2_with fail
    refine (bad_any HY.out.rd).mono ?_
    rintro e y5 ⟨rfl, rfl⟩
    by_cases he3 : s3.e = 0
    case neg =>
      have q1 : (s3.e == 0) = false := by simpa using he3
      have HE : Hid (nextK t (fR, sR) = (Fr.zero, s3.fail 3)) := by show _ = _; rw [nextK_bad (by show ¬ ((three t sR).e = 0 ∧ _); rw [HT3.out]; exact fun h => he3 h.1)]; show (Fr.zero, (three t sR).fail 3) = _; rw [HT3.out]
      clear he3
      go_wp2_with (first
        | (with_reducible refine wp_label ?_)
        | fail)
      refine (fail_any 3 HY.out.rd).mono ?_
      rintro e w8 ⟨rfl, hr, hM⟩
      have HR8 := Lib.hid hr
      have HRS8 := Lib.hid (hM.blk HRES.out (by have := HLT.out; omega))
      have HM8 := Lib.hid (HMW.out.trans hM)
      clear hr hM
      go_wp2_with (first
        | (with_reducible refine wp_label ?_)
        | ((with_reducible refine wpList_build_c ?_ 27 [] ?_ [] ?_ frZ ?_ ?_); (· exact rfl); (· exact rfl); (· exact rfl); (· kernel_rfl))
        | ((with_reducible refine wpList_store_blk ?_ 27 (.tmp 2) (.tmp 64) ?_ w.heap.size ?_ frZ frZ ?_ 27 HRS8.out size_frZ rfl frZ_one ?_); (· exact rfl); (· exact rfl); (· exact rfl); (· exact rfl); intro w9 hB9 hM9; have HB9 := Lib.hid hB9; have HM9 := Lib.hid hM9; clear hB9 hM9)
        | fail)
      refine fwd_ret ?_
      have hl := blk_loadVar (P := Tryd.prog) HB9.out Tryd.underlying27 rfl size_frZ
      refine bodyPost_ret (v := .agg frZ) ?_ rfl ?_
      · exact results_cell Tryd.results34 _ rfl hl
      · rw [HE.out]
        exact ⟨.slice none 0 0, .slice none 0 0, rfl, OwnB.nil _ _, OwnR.nil _ _, rfl, HM9.out.rdr HR8.out (fun e => by have := HLT.out; omega) (fun b cs hb e => by subst e; exact HRS8.out.ne hb (by decide) rfl), HM8.out.trans' HM9.out (fun i hi e => by omega)⟩
    case pos =>
      have q1 : (s3.e == 0) = true := by simpa using he3
      have LW := Lib.hid (blk_loadAt HY.out.fr)
      go_wp2_with (first
        | ((with_reducible refine wpList_load_v 27 (.tmp 3) ?_ ?_ (.pointer (some ⟨w.heap.size + 1, 0, none⟩)) (frV fR vd vr) ?_ LW.out ?_); (· exact rfl); (· exact rfl); (· exact rfl))
        | fail)
      refine (right_any (HY.out.frv HQ.out) HQ.out.rl HQ.out.k HQ.out.ro).mono ?_
      rintro e y6 ⟨rfl, hk6⟩
      have HYn := Lib.hid (HY.out.rd1 (hk6.mono (fun _ _ h => h.elim)) (HY.out.rd.kept hk6 (fun _ _ h => h)))
      have HRESn := Lib.hid (hk6.blk HRES.out (fun h => h))
      have HMWn := Lib.hid (HMW.out.trans (hk6.mono (fun _ _ h => h.elim)))
      clear hk6 HY HRES HMW LW
      have HY := HYn
      have HRES := HRESn
      have HMW := HMWn
      clear HYn HRESn HMWn
      cases hrt : rightF fR
      case false =>
        have HE : Hid (nextK t (fR, sR) = (Fr.zero, s3.fail 3)) := by show _ = _; rw [nextK_bad (by show ¬ (_ ∧ rightF fR = true); rw [hrt]; simp)]; show (Fr.zero, (three t sR).fail 3) = _; rw [HT3.out]
        clear he3 hrt
        go_wp2_with (first
          | (with_reducible refine wp_label ?_)
          | fail)
        refine (fail_any 3 HY.out.rd).mono ?_
        rintro e w8 ⟨rfl, hr, hM⟩
        have HR8 := Lib.hid hr
        have HRS8 := Lib.hid (hM.blk HRES.out (by have := HLT.out; omega))
        have HM8 := Lib.hid (HMW.out.trans hM)
        clear hr hM
        go_wp2_with (first
          | (with_reducible refine wp_label ?_)
          | ((with_reducible refine wpList_build_c ?_ 27 [] ?_ [] ?_ frZ ?_ ?_); (· exact rfl); (· exact rfl); (· exact rfl); (· kernel_rfl))
          | ((with_reducible refine wpList_store_blk ?_ 27 (.tmp 2) (.tmp 64) ?_ w.heap.size ?_ frZ frZ ?_ 27 HRS8.out size_frZ rfl frZ_one ?_); (· exact rfl); (· exact rfl); (· exact rfl); (· exact rfl); intro w9 hB9 hM9; have HB9 := Lib.hid hB9; have HM9 := Lib.hid hM9; clear hB9 hM9)
          | fail)
        refine fwd_ret ?_
        have hl := blk_loadVar (P := Tryd.prog) HB9.out Tryd.underlying27 rfl size_frZ
        refine bodyPost_ret (v := .agg frZ) ?_ rfl ?_
        · exact results_cell Tryd.results34 _ rfl hl
        · rw [HE.out]
          exact ⟨.slice none 0 0, .slice none 0 0, rfl, OwnB.nil _ _, OwnR.nil _ _, rfl, HM9.out.rdr HR8.out (fun e => by have := HLT.out; omega) (fun b cs hb e => by subst e; exact HRS8.out.ne hb (by decide) rfl), HM8.out.trans' HM9.out (fun i hi e => by omega)⟩
      case true =>
        have HE : Hid (nextK t (fR, sR) = (fR, s3)) := by show _ = _; rw [nextK_good (by show (three t sR).e = 0; rw [HT3.out]; exact he3) hrt]; show (fR, three t sR) = _; rw [HT3.out]
        have LW := Lib.hid (blk_loadAt HY.out.fr)
        have HONE := Lib.hid (frC_one (HY.out.frv HQ.out))
        have HSZ := Lib.hid (sizeFr fR vd vr HY.out.fr.len)
        have HSS : Hid (frZ.size = (frC fR vd vr).size) := (frC_size fR vd vr HY.out.fr.len).symm
        clear he3 hrt
        go_wp2_with (first
          | ((with_reducible refine wpList_load_v 27 (.tmp 3) ?_ ?_ (.pointer (some ⟨w.heap.size + 1, 0, none⟩)) (frV fR vd vr) ?_ LW.out ?_); (· exact rfl); (· exact rfl); (· exact rfl))
          | ((with_reducible refine wpList_store_blk ?_ 27 (.tmp 2) (.tmp 61) ?_ w.heap.size ?_ frZ (frC fR vd vr) ?_ 27 HRES.out HSZ.out HSS.out HONE.out ?_); (· exact rfl); (· exact rfl); (· exact rfl); (· exact rfl); intro w9 hB9 hM9; have HB9 := Lib.hid hB9; have HM9 := Lib.hid hM9; clear hB9 hM9)
          | fail)
        refine fwd_ret ?_
        have hl := blk_loadVar (P := Tryd.prog) HB9.out Tryd.underlying27 rfl HSZ.out
        refine bodyPost_ret (v := frV fR vd vr) ?_ rfl ?_
        · exact results_cell Tryd.results34 _ rfl hl
        · rw [HE.out]
          refine ⟨vd, vr, rfl, ?_, ?_, HY.out.fr.len, HM9.out.rdr HY.out.rd (fun e => by have := HLT.out; omega) (fun b cs hb e => by subst e; exact HRES.out.ne hb (by decide) rfl), HMW.out.trans' HM9.out (fun i hi e => by omega)⟩
          · exact HM9.out.own (own_mono HY.out.od HX9.out) (fun g hg e => by have := (World.ownsRow.lt HY.out.od g hg).1; have := HX99.out; omega)
          · exact (show OwnR _ _ _ _ from own_mono HY.out.or HX9.out).kept HM9.out (fun g hg e => by have := (World.ownsRow.lt HY.out.or g hg).1; have := HX99.out; omega)
  case pos =>
    have HT := Lib.hid ht3
    have t3 : ((t : Int) == 3) = true := by simp; omega
    clear ht3
    go_wp2_with fail
    refine (int_any HY.out.rd).mono ?_
    rintro e y1 ⟨rfl, hr, hM⟩
    have HYn := Lib.hid (HY.out.rd1 hM hr)
    have HRESn := Lib.hid (hM.blk HRES.out (by have := HLT.out; omega))
    have HMWn := Lib.hid (HMW.out.trans hM)
    clear hr hM HY HRES HMW
    have HY := HYn
    have HRES := HRESn
    have HMW := HMWn
    clear HYn HRESn HMWn
    go_wp2_with fail
    refine (int_any HY.out.rd).mono ?_
    rintro e y2 ⟨rfl, hr, hM⟩
    have HYn := Lib.hid (HY.out.rd1 hM hr)
    have HRESn := Lib.hid (hM.blk HRES.out (by have := HLT.out; omega))
    have HMWn := Lib.hid (HMW.out.trans hM)
    clear hr hM HY HRES HMW
    have HY := HYn
    have HRES := HRESn
    have HMW := HMWn
    clear HYn HRESn HMWn
    go_wp2_with fail
    refine (int_any HY.out.rd).mono ?_
    rintro e y3 ⟨rfl, hr, hM⟩
    have HYn := Lib.hid (HY.out.rd1 hM hr)
    have HRESn := Lib.hid (hM.blk HRES.out (by have := HLT.out; omega))
    have HMWn := Lib.hid (HMW.out.trans hM)
    clear hr hM HY HRES HMW
    have HY := HYn
    have HRES := HRESn
    have HMW := HMWn
    clear HYn HRESn HMWn
    obtain ⟨s3, hs3⟩ : ∃ s3, s3 = sR.int.2.int.2.int.2 := ⟨_, rfl⟩
    rw [← hs3] at HY
    have HT3 : Hid (three t sR = s3) := by show _ = _; rw [hs3]; rw [HT.out]; rfl
    clear hs3
    go_wp2_with fail
    refine (bad_any HY.out.rd).mono ?_
    rintro e y5 ⟨rfl, rfl⟩
    by_cases he3 : s3.e = 0
    case neg =>
      have q1 : (s3.e == 0) = false := by simpa using he3
      have HE : Hid (nextK t (fR, sR) = (Fr.zero, s3.fail 3)) := by show _ = _; rw [nextK_bad (by show ¬ ((three t sR).e = 0 ∧ _); rw [HT3.out]; exact fun h => he3 h.1)]; show (Fr.zero, (three t sR).fail 3) = _; rw [HT3.out]
      clear he3
      go_wp2_with (first
        | (with_reducible refine wp_label ?_)
        | fail)
      refine (fail_any 3 HY.out.rd).mono ?_
      rintro e w8 ⟨rfl, hr, hM⟩
      have HR8 := Lib.hid hr
      have HRS8 := Lib.hid (hM.blk HRES.out (by have := HLT.out; omega))
      have HM8 := Lib.hid (HMW.out.trans hM)
      clear hr hM
      go_wp2_with (first
        | (with_reducible refine wp_label ?_)
        | ((with_reducible refine wpList_build_c ?_ 27 [] ?_ [] ?_ frZ ?_ ?_); (· exact rfl); (· exact rfl); (· exact rfl); (· kernel_rfl))
        | ((with_reducible refine wpList_store_blk ?_ 27 (.tmp 2) (.tmp 64) ?_ w.heap.size ?_ frZ frZ ?_ 27 HRS8.out size_frZ rfl frZ_one ?_); (· exact rfl); (· exact rfl); (· exact rfl); (· exact rfl); intro w9 hB9 hM9; have HB9 := Lib.hid hB9; have HM9 := Lib.hid hM9; clear hB9 hM9)
        | fail)
      refine fwd_ret ?_
      have hl := blk_loadVar (P := Tryd.prog) HB9.out Tryd.underlying27 rfl size_frZ
      refine bodyPost_ret (v := .agg frZ) ?_ rfl ?_
      · exact results_cell Tryd.results34 _ rfl hl
      · rw [HE.out]
        exact ⟨.slice none 0 0, .slice none 0 0, rfl, OwnB.nil _ _, OwnR.nil _ _, rfl, HM9.out.rdr HR8.out (fun e => by have := HLT.out; omega) (fun b cs hb e => by subst e; exact HRS8.out.ne hb (by decide) rfl), HM8.out.trans' HM9.out (fun i hi e => by omega)⟩
    case pos =>
      have q1 : (s3.e == 0) = true := by simpa using he3
      have LW := Lib.hid (blk_loadAt HY.out.fr)
      go_wp2_with (first
        | ((with_reducible refine wpList_load_v 27 (.tmp 3) ?_ ?_ (.pointer (some ⟨w.heap.size + 1, 0, none⟩)) (frV fR vd vr) ?_ LW.out ?_); (· exact rfl); (· exact rfl); (· exact rfl))
        | fail)
      refine (right_any (HY.out.frv HQ.out) HQ.out.rl HQ.out.k HQ.out.ro).mono ?_
      rintro e y6 ⟨rfl, hk6⟩
      have HYn := Lib.hid (HY.out.rd1 (hk6.mono (fun _ _ h => h.elim)) (HY.out.rd.kept hk6 (fun _ _ h => h)))
      have HRESn := Lib.hid (hk6.blk HRES.out (fun h => h))
      have HMWn := Lib.hid (HMW.out.trans (hk6.mono (fun _ _ h => h.elim)))
      clear hk6 HY HRES HMW LW
      have HY := HYn
      have HRES := HRESn
      have HMW := HMWn
      clear HYn HRESn HMWn
      cases hrt : rightF fR
      case false =>
        have HE : Hid (nextK t (fR, sR) = (Fr.zero, s3.fail 3)) := by show _ = _; rw [nextK_bad (by show ¬ (_ ∧ rightF fR = true); rw [hrt]; simp)]; show (Fr.zero, (three t sR).fail 3) = _; rw [HT3.out]
        clear he3 hrt
        go_wp2_with (first
          | (with_reducible refine wp_label ?_)
          | fail)
        refine (fail_any 3 HY.out.rd).mono ?_
        rintro e w8 ⟨rfl, hr, hM⟩
        have HR8 := Lib.hid hr
        have HRS8 := Lib.hid (hM.blk HRES.out (by have := HLT.out; omega))
        have HM8 := Lib.hid (HMW.out.trans hM)
        clear hr hM
        go_wp2_with (first
          | (with_reducible refine wp_label ?_)
          | ((with_reducible refine wpList_build_c ?_ 27 [] ?_ [] ?_ frZ ?_ ?_); (· exact rfl); (· exact rfl); (· exact rfl); (· kernel_rfl))
          | ((with_reducible refine wpList_store_blk ?_ 27 (.tmp 2) (.tmp 64) ?_ w.heap.size ?_ frZ frZ ?_ 27 HRS8.out size_frZ rfl frZ_one ?_); (· exact rfl); (· exact rfl); (· exact rfl); (· exact rfl); intro w9 hB9 hM9; have HB9 := Lib.hid hB9; have HM9 := Lib.hid hM9; clear hB9 hM9)
          | fail)
        refine fwd_ret ?_
        have hl := blk_loadVar (P := Tryd.prog) HB9.out Tryd.underlying27 rfl size_frZ
        refine bodyPost_ret (v := .agg frZ) ?_ rfl ?_
        · exact results_cell Tryd.results34 _ rfl hl
        · rw [HE.out]
          exact ⟨.slice none 0 0, .slice none 0 0, rfl, OwnB.nil _ _, OwnR.nil _ _, rfl, HM9.out.rdr HR8.out (fun e => by have := HLT.out; omega) (fun b cs hb e => by subst e; exact HRS8.out.ne hb (by decide) rfl), HM8.out.trans' HM9.out (fun i hi e => by omega)⟩
      case true =>
        have HE : Hid (nextK t (fR, sR) = (fR, s3)) := by show _ = _; rw [nextK_good (by show (three t sR).e = 0; rw [HT3.out]; exact he3) hrt]; show (fR, three t sR) = _; rw [HT3.out]
        have LW := Lib.hid (blk_loadAt HY.out.fr)
        have HONE := Lib.hid (frC_one (HY.out.frv HQ.out))
        have HSZ := Lib.hid (sizeFr fR vd vr HY.out.fr.len)
        have HSS : Hid (frZ.size = (frC fR vd vr).size) := (frC_size fR vd vr HY.out.fr.len).symm
        clear he3 hrt
        go_wp2_with (first
          | ((with_reducible refine wpList_load_v 27 (.tmp 3) ?_ ?_ (.pointer (some ⟨w.heap.size + 1, 0, none⟩)) (frV fR vd vr) ?_ LW.out ?_); (· exact rfl); (· exact rfl); (· exact rfl))
          | ((with_reducible refine wpList_store_blk ?_ 27 (.tmp 2) (.tmp 61) ?_ w.heap.size ?_ frZ (frC fR vd vr) ?_ 27 HRES.out HSZ.out HSS.out HONE.out ?_); (· exact rfl); (· exact rfl); (· exact rfl); (· exact rfl); intro w9 hB9 hM9; have HB9 := Lib.hid hB9; have HM9 := Lib.hid hM9; clear hB9 hM9)
          | fail)
        refine fwd_ret ?_
        have hl := blk_loadVar (P := Tryd.prog) HB9.out Tryd.underlying27 rfl HSZ.out
        refine bodyPost_ret (v := frV fR vd vr) ?_ rfl ?_
        · exact results_cell Tryd.results34 _ rfl hl
        · rw [HE.out]
          refine ⟨vd, vr, rfl, ?_, ?_, HY.out.fr.len, HM9.out.rdr HY.out.rd (fun e => by have := HLT.out; omega) (fun b cs hb e => by subst e; exact HRES.out.ne hb (by decide) rfl), HMW.out.trans' HM9.out (fun i hi e => by omega)⟩
          · exact HM9.out.own (own_mono HY.out.od HX9.out) (fun g hg e => by have := (World.ownsRow.lt HY.out.od g hg).1; have := HX99.out; omega)
          · exact (show OwnR _ _ _ _ from own_mono HY.out.or HX9.out).kept HM9.out (fun g hg e => by have := (World.ownsRow.lt HY.out.or g hg).1; have := HX99.out; omega)
set_option maxHeartbeats 16000000 in
set_option maxRecDepth 10000 in
theorem next_str {w : World} {rb : Nat} {s : RS} (h : Rdr w rb s) (he : s.int.2.e = 0) (h8 : (knownL s.int.1).1 = 8) (ht16 : 8 ≤ s.int.1 ∧ s.int.1 < 16) {fn1 fn2 : Nat} {v3 v4 : Value} (hkf : kindsF (knownL s.int.1).1 = some (.agg #[fnV fn1, fnV fn2, v3, v4])) (o3 : v3.oneCell' = true) (o4 : v4.oneCell' = true)
    (hq : Rdy (strmL (decide (s.int.1 / 4 % 2 = 1)) (decide (s.int.1 / 2 % 2 = 1)) (decide (s.int.1 % 2 = 1)) (Fr.ofKind (knownL s.int.1).1 (knownL s.int.1).2) s.int.2).1) :
    Calls Tryd.prog 34 #[.pointer (some ⟨rb, 0, none⟩)] w (NextR w rb (nextK s.int.1 (strmL (decide (s.int.1 / 4 % 2 = 1)) (decide (s.int.1 / 2 % 2 = 1)) (decide (s.int.1 % 2 = 1)) (Fr.ofKind (knownL s.int.1).1 (knownL s.int.1).2) s.int.2))) := by
  have HS0 := Lib.hid (NxS.start h)
  have t1 : (s.int.2.e != 0) = false := by simp [he]
  have HKN := Lib.hid (known_any s.int.1 (int_lt s))
  have HOK := Lib.hid (okKey_small (knownL_rng s.int.1).1 (knownL_rng s.int.1).2)
  have HEE := Lib.hid he
  have HKF := Lib.hid hkf
  have HON := Lib.hid (kd_one fn1 fn2 o3 o4)
  have HQ := Lib.hid hq
  have HT16 := Lib.hid ht16
  have t8 : ((knownL s.int.1).1 == 8) = true := by simpa using h8
  have hwt : IntKind.i64.wrap ((s.int.1 : Nat) : Int) = ((s.int.1 : Nat) : Int) := IntWalk.i64_in _ (by omega)
  clear hkf o3 o4 hq h8 ht16
  clear h he
  go_enter Tryd.func34, Tryd.ntmps34
  go_wp2_with fail
  refine wp_scope_fwd ?_
  go_wp2_with fail
  refine (int_any HS0.out.rd).mono ?_
  rintro e w1 ⟨rfl, hr, hM⟩
  have HS1 := Lib.hid (HS0.out.rd1 hM hr)
  clear hr hM
  go_wp2_with fail
  refine (bad_any HS1.out.rd).mono ?_
  rintro e w2 ⟨rfl, rfl⟩
  obtain ⟨d0, d1, d2, d3, d4, d5, d6, d7⟩ := HS1.out.fr.cells
  have f0 := HS1.out.fr.blk.free 0
  have f5 := HS1.out.fr.blk.free 5
  generalize s.int.1 = t at *
  generalize s.int.2 = s1 at *
  generalize (knownL t).1 = k at *
  generalize (knownL t).2 = fl at *
  go_wp2_with fail
  refine (HKN.out _).mono ?_
  rintro e w3 ⟨rfl, rfl⟩
  go_wp2_with fail
  have HS4 := Lib.hid (HS1.out.kind k fl)
  clear d0 d1 d2 d3 d4 d5 d6 d7 f0 f5 HS0 HS1
  generalize (w1.setCell ⟨w.heap.size + 1, 0, none⟩ (.int .i64 k)).setCell ⟨w.heap.size + 1, 5, none⟩ (.bool fl) = w4 at *
  refine wp_region_held_drew (S := fun X => NxT w X rb s1 (Fr.ofKind k fl)) (by kernel_rfl) (HS4.out.t.nil (Mod.refl _ _).drew) (fun hS => ?_)
  refine takeH (i := 1) (v := .pointer (some ⟨w.heap.size + 1, 0, none⟩)) (some 21) rfl rfl (by kernel_rfl) (by kernel_rfl) (by kernel_rfl) (fun _ _ _ h => h) (Or.inl ⟨by rfl, fun X hX => ?_⟩) hS ?_
  · go_simp
  (try go_frame)
  refine takeH (i := 2) (v := .int .i64 k) (some 22) rfl rfl (by kernel_rfl) (by kernel_rfl) (by kernel_rfl) (fun _ _ _ h => h) (Or.inl ⟨by rfl, fun X hX => ?_⟩) hS ?_
  · have : X.cell? ⟨w.heap.size + 1, 0, none⟩ = some (.int .i64 k) := hX.fr.cells.1; go_simp
  (try go_frame)
  refine wpAnyH_ready (rs := [0]) (by kernel_rfl) (by simp) ?_
  refine AllReadyH.cons rfl (fun K hK => ?_) AllReadyH.nil
  go_simp
  refine (kinds_any _).mono ?_
  rintro e X1 ⟨mb, rfl, hV, hk1⟩
  have hlk := hV.look2 (t := 50) (e := 48) HOK.out Tryd.underlying50 (zero_kind X1)
  rw [HKF.out] at hlk
  simp only [Option.getD_some, Option.isSome_some] at hlk
  have hkd := hk1.blk ((Mod.refl (fun _ => False) w4).drew.blk HS4.out.kd (fun h => h)) (fun h => h)
  refine hK.out _ _ (hS.nil hk1) (fun hS => ?_)
  clear hK K
  refine wpAnyH_ready (rs := [3]) (by kernel_rfl) (by simp) ?_
  refine AllReadyH.cons rfl (fun K hK => ?_) AllReadyH.nil
  go_simp
  refine hK.out _ _ hS (fun hS => ?_)
  clear hK K
  refine takeH (i := 4) (v := .tuple #[.agg #[fnV fn1, fnV fn2, v3, v4], .bool true]) (some 19) rfl rfl (by kernel_rfl) (by kernel_rfl) (by kernel_rfl) (fun _ _ _ h => h) (Or.inl ⟨by rfl, fun X hX => ?_⟩) hS ?_
  · go_simp
  (try go_frame)
  refine takeH (i := 5) (v := .agg #[fnV fn1, fnV fn2, v3, v4]) (some 24) rfl rfl (by kernel_rfl) (by kernel_rfl) (by kernel_rfl) (fun _ _ _ h => h) (Or.inl ⟨by rfl, fun X hX => ?_⟩) hS ?_
  · go_simp
  (try go_frame)
  refine takeH (i := 6) (v := .bool true) (some 25) rfl rfl (by kernel_rfl) (by kernel_rfl) (by kernel_rfl) (fun _ _ _ h => h) (Or.inl ⟨by rfl, fun X hX => ?_⟩) hS ?_
  · go_simp
  (try go_frame)
  refine wpAnyH_ready (rs := [7]) (by kernel_rfl) (by simp) ?_
  refine AllReadyH.cons rfl (fun K hK => ?_) AllReadyH.nil
  refine wp_store_blk 48 (.tmp 4) (.tmp 24) rfl (w.heap.size + 2) (by rfl) kdZ #[fnV fn1, fnV fn2, v3, v4] (by rfl) 48 hkd (sizeKd _ _ _ _) rfl HON.out ?_
  intro X9 hB9 hM9
  refine hK.out _ _ (hS.kd hkd hM9) (fun hS => ?_)
  clear hK K
  refine wpAnyH_ready (rs := [8]) (by kernel_rfl) (by simp) ?_
  refine AllReadyH.cons rfl (fun K hK => ?_) AllReadyH.nil
  go_simp
  refine hK.out _ _ hS (fun hS => ?_)
  clear hK K
  refine wpAnyH_done (by kernel_rfl) ?_ _
  have HS9 := Lib.hid hS
  have HB9k := Lib.hid hB9
  clear hS hB9 hM9 hkd hlk hV hk1
  have HLT := Lib.hid HS9.out.lt
  have HX9 := Lib.hid HS9.out.mod.size
  have HX99 := Lib.hid HS9.out.fr.blk.lt
  have c0 : X9.cell? ⟨w.heap.size + 1, 0, none⟩ = some (.int .i64 k) := HS9.out.fr.cells.1
  go_wp2_with fail
  refine (strm_any (t := t) rfl (by have := HT16.out; omega) (RdS.start HS9.out rfl rfl)).mono ?_
  rintro e Y ⟨rfl, vd, vr, hY⟩
  have HY := Lib.hid hY
  have HRES := Lib.hid (hY.mod.blk HS9.out.res (by have := HLT.out; omega))
  have HMW := Lib.hid (HS9.out.mod.trans' hY.mod (fun i hi e => by omega))
  clear hY c0
  generalize strmL (decide (t / 4 % 2 = 1)) (decide (t / 2 % 2 = 1)) (decide (t % 2 = 1)) (Fr.ofKind k fl) s1 = R at *
  obtain ⟨fR, sR⟩ := R
  simp only at HY HQ
  have HT : Hid (t ≠ 3) := by show t ≠ 3; have := HT16.out; omega
  have t3 : ((t : Int) == 3) = false := by have := HT.out; simp; omega
  obtain ⟨s3, hs3⟩ : ∃ s3, s3 = sR := ⟨_, rfl⟩
  rw [← hs3] at HY
  have HT3 : Hid (three t sR = s3) := by show _ = _; rw [hs3]; exact three_no HT.out sR
  clear hs3
  go_wp2_with fail
  refine (bad_any HY.out.rd).mono ?_
  rintro e y5 ⟨rfl, rfl⟩
  by_cases he3 : s3.e = 0
  case neg =>
    have q1 : (s3.e == 0) = false := by simpa using he3
    have HE : Hid (nextK t (fR, sR) = (Fr.zero, s3.fail 3)) := by show _ = _; rw [nextK_bad (by show ¬ ((three t sR).e = 0 ∧ _); rw [HT3.out]; exact fun h => he3 h.1)]; show (Fr.zero, (three t sR).fail 3) = _; rw [HT3.out]
    clear he3
    go_wp2_with (first
      | (with_reducible refine wp_label ?_)
      | fail)
    refine (fail_any 3 HY.out.rd).mono ?_
    rintro e w8 ⟨rfl, hr, hM⟩
    have HR8 := Lib.hid hr
    have HRS8 := Lib.hid (hM.blk HRES.out (by have := HLT.out; omega))
    have HM8 := Lib.hid (HMW.out.trans hM)
    clear hr hM
    go_wp2_with (first
      | (with_reducible refine wp_label ?_)
      | ((with_reducible refine wpList_build_c ?_ 27 [] ?_ [] ?_ frZ ?_ ?_); (· exact rfl); (· exact rfl); (· exact rfl); (· kernel_rfl))
      | ((with_reducible refine wpList_store_blk ?_ 27 (.tmp 2) (.tmp 64) ?_ w.heap.size ?_ frZ frZ ?_ 27 HRS8.out size_frZ rfl frZ_one ?_); (· exact rfl); (· exact rfl); (· exact rfl); (· exact rfl); intro w9 hB9 hM9; have HB9 := Lib.hid hB9; have HM9 := Lib.hid hM9; clear hB9 hM9)
      | fail)
    refine fwd_ret ?_
    have hl := blk_loadVar (P := Tryd.prog) HB9.out Tryd.underlying27 rfl size_frZ
    refine bodyPost_ret (v := .agg frZ) ?_ rfl ?_
    · exact results_cell Tryd.results34 _ rfl hl
    · rw [HE.out]
      exact ⟨.slice none 0 0, .slice none 0 0, rfl, OwnB.nil _ _, OwnR.nil _ _, rfl, HM9.out.rdr HR8.out (fun e => by have := HLT.out; omega) (fun b cs hb e => by subst e; exact HRS8.out.ne hb (by decide) rfl), HM8.out.trans' HM9.out (fun i hi e => by omega)⟩
  case pos =>
    have q1 : (s3.e == 0) = true := by simpa using he3
    have LW := Lib.hid (blk_loadAt HY.out.fr)
    go_wp2_with (first
      | ((with_reducible refine wpList_load_v 27 (.tmp 3) ?_ ?_ (.pointer (some ⟨w.heap.size + 1, 0, none⟩)) (frV fR vd vr) ?_ LW.out ?_); (· exact rfl); (· exact rfl); (· exact rfl))
      | fail)
    refine (right_any (HY.out.frv HQ.out) HQ.out.rl HQ.out.k HQ.out.ro).mono ?_
    rintro e y6 ⟨rfl, hk6⟩
    have HYn := Lib.hid (HY.out.rd1 (hk6.mono (fun _ _ h => h.elim)) (HY.out.rd.kept hk6 (fun _ _ h => h)))
    have HRESn := Lib.hid (hk6.blk HRES.out (fun h => h))
    have HMWn := Lib.hid (HMW.out.trans (hk6.mono (fun _ _ h => h.elim)))
    clear hk6 HY HRES HMW LW
    have HY := HYn
    have HRES := HRESn
    have HMW := HMWn
    clear HYn HRESn HMWn
    cases hrt : rightF fR
    case false =>
      have HE : Hid (nextK t (fR, sR) = (Fr.zero, s3.fail 3)) := by show _ = _; rw [nextK_bad (by show ¬ (_ ∧ rightF fR = true); rw [hrt]; simp)]; show (Fr.zero, (three t sR).fail 3) = _; rw [HT3.out]
      clear he3 hrt
      go_wp2_with (first
        | (with_reducible refine wp_label ?_)
        | fail)
      refine (fail_any 3 HY.out.rd).mono ?_
      rintro e w8 ⟨rfl, hr, hM⟩
      have HR8 := Lib.hid hr
      have HRS8 := Lib.hid (hM.blk HRES.out (by have := HLT.out; omega))
      have HM8 := Lib.hid (HMW.out.trans hM)
      clear hr hM
      go_wp2_with (first
        | (with_reducible refine wp_label ?_)
        | ((with_reducible refine wpList_build_c ?_ 27 [] ?_ [] ?_ frZ ?_ ?_); (· exact rfl); (· exact rfl); (· exact rfl); (· kernel_rfl))
        | ((with_reducible refine wpList_store_blk ?_ 27 (.tmp 2) (.tmp 64) ?_ w.heap.size ?_ frZ frZ ?_ 27 HRS8.out size_frZ rfl frZ_one ?_); (· exact rfl); (· exact rfl); (· exact rfl); (· exact rfl); intro w9 hB9 hM9; have HB9 := Lib.hid hB9; have HM9 := Lib.hid hM9; clear hB9 hM9)
        | fail)
      refine fwd_ret ?_
      have hl := blk_loadVar (P := Tryd.prog) HB9.out Tryd.underlying27 rfl size_frZ
      refine bodyPost_ret (v := .agg frZ) ?_ rfl ?_
      · exact results_cell Tryd.results34 _ rfl hl
      · rw [HE.out]
        exact ⟨.slice none 0 0, .slice none 0 0, rfl, OwnB.nil _ _, OwnR.nil _ _, rfl, HM9.out.rdr HR8.out (fun e => by have := HLT.out; omega) (fun b cs hb e => by subst e; exact HRS8.out.ne hb (by decide) rfl), HM8.out.trans' HM9.out (fun i hi e => by omega)⟩
    case true =>
      have HE : Hid (nextK t (fR, sR) = (fR, s3)) := by show _ = _; rw [nextK_good (by show (three t sR).e = 0; rw [HT3.out]; exact he3) hrt]; show (fR, three t sR) = _; rw [HT3.out]
      have LW := Lib.hid (blk_loadAt HY.out.fr)
      have HONE := Lib.hid (frC_one (HY.out.frv HQ.out))
      have HSZ := Lib.hid (sizeFr fR vd vr HY.out.fr.len)
      have HSS : Hid (frZ.size = (frC fR vd vr).size) := (frC_size fR vd vr HY.out.fr.len).symm
      clear he3 hrt
      go_wp2_with (first
        | ((with_reducible refine wpList_load_v 27 (.tmp 3) ?_ ?_ (.pointer (some ⟨w.heap.size + 1, 0, none⟩)) (frV fR vd vr) ?_ LW.out ?_); (· exact rfl); (· exact rfl); (· exact rfl))
        | ((with_reducible refine wpList_store_blk ?_ 27 (.tmp 2) (.tmp 61) ?_ w.heap.size ?_ frZ (frC fR vd vr) ?_ 27 HRES.out HSZ.out HSS.out HONE.out ?_); (· exact rfl); (· exact rfl); (· exact rfl); (· exact rfl); intro w9 hB9 hM9; have HB9 := Lib.hid hB9; have HM9 := Lib.hid hM9; clear hB9 hM9)
        | fail)
      refine fwd_ret ?_
      have hl := blk_loadVar (P := Tryd.prog) HB9.out Tryd.underlying27 rfl HSZ.out
      refine bodyPost_ret (v := frV fR vd vr) ?_ rfl ?_
      · exact results_cell Tryd.results34 _ rfl hl
      · rw [HE.out]
        refine ⟨vd, vr, rfl, ?_, ?_, HY.out.fr.len, HM9.out.rdr HY.out.rd (fun e => by have := HLT.out; omega) (fun b cs hb e => by subst e; exact HRES.out.ne hb (by decide) rfl), HMW.out.trans' HM9.out (fun i hi e => by omega)⟩
        · exact HM9.out.own (own_mono HY.out.od HX9.out) (fun g hg e => by have := (World.ownsRow.lt HY.out.od g hg).1; have := HX99.out; omega)
        · exact (show OwnR _ _ _ _ from own_mono HY.out.or HX9.out).kept HM9.out (fun g hg e => by have := (World.ownsRow.lt HY.out.or g hg).1; have := HX99.out; omega)
set_option maxHeartbeats 16000000 in
set_option maxRecDepth 10000 in
theorem next_pad {w : World} {rb : Nat} {s : RS} (h : Rdr w rb s) (he : s.int.2.e = 0) (h0 : (knownL s.int.1).1 = 0) (ht0 : s.int.1 = 0) {fn1 fn2 : Nat} {v3 v4 : Value} (hkf : kindsF (knownL s.int.1).1 = some (.agg #[fnV fn1, fnV fn2, v3, v4])) (o3 : v3.oneCell' = true) (o4 : v4.oneCell' = true)
    {fR : Fr} {sR : RS} (hfR : fR = (Fr.ofKind (knownL s.int.1).1 (knownL s.int.1).2).setA (zeroN 1199 s.int.2.l + 1)) (hsR : sR = ⟨s.int.2.l.drop (zeroN 1199 s.int.2.l), s.int.2.e⟩) (hq : Rdy fR) :
    Calls Tryd.prog 34 #[.pointer (some ⟨rb, 0, none⟩)] w (NextR w rb (nextK s.int.1 (fR, sR))) := by
  have HS0 := Lib.hid (NxS.start h)
  have t1 : (s.int.2.e != 0) = false := by simp [he]
  have HKN := Lib.hid (known_any s.int.1 (int_lt s))
  have HOK := Lib.hid (okKey_small (knownL_rng s.int.1).1 (knownL_rng s.int.1).2)
  have HEE := Lib.hid he
  have HKF := Lib.hid hkf
  have HON := Lib.hid (kd_one fn1 fn2 o3 o4)
  have HQ := Lib.hid hq
  have HFR := Lib.hid hfR
  have HSR := Lib.hid hsR
  have HT16 := Lib.hid ht0
  have t8 : ((knownL s.int.1).1 == 8) = false := by simp [h0]
  have t0 : ((knownL s.int.1).1 == 0) = true := by simp [h0]
  clear hkf o3 o4 hq h0 ht0 hfR hsR
  clear h he
  go_enter Tryd.func34, Tryd.ntmps34
  go_wp2_with fail
  refine wp_scope_fwd ?_
  go_wp2_with fail
  refine (int_any HS0.out.rd).mono ?_
  rintro e w1 ⟨rfl, hr, hM⟩
  have HS1 := Lib.hid (HS0.out.rd1 hM hr)
  clear hr hM
  go_wp2_with fail
  refine (bad_any HS1.out.rd).mono ?_
  rintro e w2 ⟨rfl, rfl⟩
  obtain ⟨d0, d1, d2, d3, d4, d5, d6, d7⟩ := HS1.out.fr.cells
  have f0 := HS1.out.fr.blk.free 0
  have f5 := HS1.out.fr.blk.free 5
  generalize s.int.1 = t at *
  generalize s.int.2 = s1 at *
  generalize (knownL t).1 = k at *
  generalize (knownL t).2 = fl at *
  go_wp2_with fail
  refine (HKN.out _).mono ?_
  rintro e w3 ⟨rfl, rfl⟩
  go_wp2_with fail
  have HS4 := Lib.hid (HS1.out.kind k fl)
  clear d0 d1 d2 d3 d4 d5 d6 d7 f0 f5 HS0 HS1
  generalize (w1.setCell ⟨w.heap.size + 1, 0, none⟩ (.int .i64 k)).setCell ⟨w.heap.size + 1, 5, none⟩ (.bool fl) = w4 at *
  refine wp_region_held_drew (S := fun X => NxT w X rb s1 (Fr.ofKind k fl)) (by kernel_rfl) (HS4.out.t.nil (Mod.refl _ _).drew) (fun hS => ?_)
  refine takeH (i := 1) (v := .pointer (some ⟨w.heap.size + 1, 0, none⟩)) (some 21) rfl rfl (by kernel_rfl) (by kernel_rfl) (by kernel_rfl) (fun _ _ _ h => h) (Or.inl ⟨by rfl, fun X hX => ?_⟩) hS ?_
  · go_simp
  (try go_frame)
  refine takeH (i := 2) (v := .int .i64 k) (some 22) rfl rfl (by kernel_rfl) (by kernel_rfl) (by kernel_rfl) (fun _ _ _ h => h) (Or.inl ⟨by rfl, fun X hX => ?_⟩) hS ?_
  · have : X.cell? ⟨w.heap.size + 1, 0, none⟩ = some (.int .i64 k) := hX.fr.cells.1; go_simp
  (try go_frame)
  refine wpAnyH_ready (rs := [0]) (by kernel_rfl) (by simp) ?_
  refine AllReadyH.cons rfl (fun K hK => ?_) AllReadyH.nil
  go_simp
  refine (kinds_any _).mono ?_
  rintro e X1 ⟨mb, rfl, hV, hk1⟩
  have hlk := hV.look2 (t := 50) (e := 48) HOK.out Tryd.underlying50 (zero_kind X1)
  rw [HKF.out] at hlk
  simp only [Option.getD_some, Option.isSome_some] at hlk
  have hkd := hk1.blk ((Mod.refl (fun _ => False) w4).drew.blk HS4.out.kd (fun h => h)) (fun h => h)
  refine hK.out _ _ (hS.nil hk1) (fun hS => ?_)
  clear hK K
  refine wpAnyH_ready (rs := [3]) (by kernel_rfl) (by simp) ?_
  refine AllReadyH.cons rfl (fun K hK => ?_) AllReadyH.nil
  go_simp
  refine hK.out _ _ hS (fun hS => ?_)
  clear hK K
  refine takeH (i := 4) (v := .tuple #[.agg #[fnV fn1, fnV fn2, v3, v4], .bool true]) (some 19) rfl rfl (by kernel_rfl) (by kernel_rfl) (by kernel_rfl) (fun _ _ _ h => h) (Or.inl ⟨by rfl, fun X hX => ?_⟩) hS ?_
  · go_simp
  (try go_frame)
  refine takeH (i := 5) (v := .agg #[fnV fn1, fnV fn2, v3, v4]) (some 24) rfl rfl (by kernel_rfl) (by kernel_rfl) (by kernel_rfl) (fun _ _ _ h => h) (Or.inl ⟨by rfl, fun X hX => ?_⟩) hS ?_
  · go_simp
  (try go_frame)
  refine takeH (i := 6) (v := .bool true) (some 25) rfl rfl (by kernel_rfl) (by kernel_rfl) (by kernel_rfl) (fun _ _ _ h => h) (Or.inl ⟨by rfl, fun X hX => ?_⟩) hS ?_
  · go_simp
  (try go_frame)
  refine wpAnyH_ready (rs := [7]) (by kernel_rfl) (by simp) ?_
  refine AllReadyH.cons rfl (fun K hK => ?_) AllReadyH.nil
  refine wp_store_blk 48 (.tmp 4) (.tmp 24) rfl (w.heap.size + 2) (by rfl) kdZ #[fnV fn1, fnV fn2, v3, v4] (by rfl) 48 hkd (sizeKd _ _ _ _) rfl HON.out ?_
  intro X9 hB9 hM9
  refine hK.out _ _ (hS.kd hkd hM9) (fun hS => ?_)
  clear hK K
  refine wpAnyH_ready (rs := [8]) (by kernel_rfl) (by simp) ?_
  refine AllReadyH.cons rfl (fun K hK => ?_) AllReadyH.nil
  go_simp
  refine hK.out _ _ hS (fun hS => ?_)
  clear hK K
  refine wpAnyH_done (by kernel_rfl) ?_ _
  have HS9 := Lib.hid hS
  have HB9k := Lib.hid hB9
  clear hS hB9 hM9 hkd hlk hV hk1
  have HLT := Lib.hid HS9.out.lt
  have HX9 := Lib.hid HS9.out.mod.size
  have HX99 := Lib.hid HS9.out.fr.blk.lt
  have c0 : X9.cell? ⟨w.heap.size + 1, 0, none⟩ = some (.int .i64 k) := HS9.out.fr.cells.1
  go_wp2_with fail
  refine (zeros_any HS9.out.rd).mono ?_
  rintro e Y0 ⟨rfl, hr, hM⟩
  have HY0 := Lib.hid ((RdS.start HS9.out rfl rfl).rd1 hM hr)
  clear hr hM c0
  have hz9 := (zeroN_le 1199 s1.l).1
  generalize zeroN 1199 s1.l = zn at *
  have hwz : IntKind.u64.wrap (1 + (zn : Int)) = ((zn + 1 : Nat) : Int) := by rw [show 1 + (zn : Int) = ((zn + 1 : Nat) : Int) by omega]; exact IntWalk.u64_in _ (by omega)
  obtain ⟨d0, d1, d2, d3, d4, d5, d6, d7⟩ := HY0.out.fr.cells
  have f2 := HY0.out.fr.blk.free 2
  obtain ⟨zm, hzm⟩ : ∃ m, m = zn + 1 := ⟨_, rfl⟩
  rw [← hzm] at hwz HFR
  have HZM := Lib.hid hzm
  clear hzm hz9
  have hY := HY0.out.setA zm
  have HRES := Lib.hid (hY.mod.blk HS9.out.res (by have := HLT.out; omega))
  have HMW := Lib.hid (HS9.out.mod.trans' hY.mod (fun i hi e => by omega))
  have HY := Lib.hid hY
  clear hY HY0
  have HT : Hid (t ≠ 3) := by show t ≠ 3; have := HT16.out; omega
  have t3 : ((t : Int) == 3) = false := by have := HT.out; simp; omega
  rw [← HFR.out, ← HSR.out] at HY
  obtain ⟨s3, hs3⟩ : ∃ s3, s3 = sR := ⟨_, rfl⟩
  rw [← hs3] at HY
  have HT3 : Hid (three t sR = s3) := by show _ = _; rw [hs3]; exact three_no HT.out sR
  clear hs3
  go_wp2_with fail
  refine (bad_any HY.out.rd).mono ?_
  rintro e y5 ⟨rfl, rfl⟩
  by_cases he3 : s3.e = 0
  case neg =>
    have q1 : (s3.e == 0) = false := by simpa using he3
    have HE : Hid (nextK t (fR, sR) = (Fr.zero, s3.fail 3)) := by show _ = _; rw [nextK_bad (by show ¬ ((three t sR).e = 0 ∧ _); rw [HT3.out]; exact fun h => he3 h.1)]; show (Fr.zero, (three t sR).fail 3) = _; rw [HT3.out]
    clear he3
    go_wp2_with (first
      | (with_reducible refine wp_label ?_)
      | fail)
    refine (fail_any 3 HY.out.rd).mono ?_
    rintro e w8 ⟨rfl, hr, hM⟩
    have HR8 := Lib.hid hr
    have HRS8 := Lib.hid (hM.blk HRES.out (by have := HLT.out; omega))
    have HM8 := Lib.hid (HMW.out.trans hM)
    clear hr hM
    go_wp2_with (first
      | (with_reducible refine wp_label ?_)
      | ((with_reducible refine wpList_build_c ?_ 27 [] ?_ [] ?_ frZ ?_ ?_); (· exact rfl); (· exact rfl); (· exact rfl); (· kernel_rfl))
      | ((with_reducible refine wpList_store_blk ?_ 27 (.tmp 2) (.tmp 64) ?_ w.heap.size ?_ frZ frZ ?_ 27 HRS8.out size_frZ rfl frZ_one ?_); (· exact rfl); (· exact rfl); (· exact rfl); (· exact rfl); intro w9 hB9 hM9; have HB9 := Lib.hid hB9; have HM9 := Lib.hid hM9; clear hB9 hM9)
      | fail)
    refine fwd_ret ?_
    have hl := blk_loadVar (P := Tryd.prog) HB9.out Tryd.underlying27 rfl size_frZ
    refine bodyPost_ret (v := .agg frZ) ?_ rfl ?_
    · exact results_cell Tryd.results34 _ rfl hl
    · rw [HE.out]
      exact ⟨.slice none 0 0, .slice none 0 0, rfl, OwnB.nil _ _, OwnR.nil _ _, rfl, HM9.out.rdr HR8.out (fun e => by have := HLT.out; omega) (fun b cs hb e => by subst e; exact HRS8.out.ne hb (by decide) rfl), HM8.out.trans' HM9.out (fun i hi e => by omega)⟩
  case pos =>
    have q1 : (s3.e == 0) = true := by simpa using he3
    have LW := Lib.hid (blk_loadAt HY.out.fr)
    go_wp2_with (first
      | ((with_reducible refine wpList_load_v 27 (.tmp 3) ?_ ?_ (.pointer (some ⟨w.heap.size + 1, 0, none⟩)) (frV fR (.slice none 0 0) (.slice none 0 0)) ?_ LW.out ?_); (· exact rfl); (· exact rfl); (· exact rfl))
      | fail)
    refine (right_any (HY.out.frv HQ.out) HQ.out.rl HQ.out.k HQ.out.ro).mono ?_
    rintro e y6 ⟨rfl, hk6⟩
    have HYn := Lib.hid (HY.out.rd1 (hk6.mono (fun _ _ h => h.elim)) (HY.out.rd.kept hk6 (fun _ _ h => h)))
    have HRESn := Lib.hid (hk6.blk HRES.out (fun h => h))
    have HMWn := Lib.hid (HMW.out.trans (hk6.mono (fun _ _ h => h.elim)))
    clear hk6 HY HRES HMW LW
    have HY := HYn
    have HRES := HRESn
    have HMW := HMWn
    clear HYn HRESn HMWn
    cases hrt : rightF fR
    case false =>
      have HE : Hid (nextK t (fR, sR) = (Fr.zero, s3.fail 3)) := by show _ = _; rw [nextK_bad (by show ¬ (_ ∧ rightF fR = true); rw [hrt]; simp)]; show (Fr.zero, (three t sR).fail 3) = _; rw [HT3.out]
      clear he3 hrt
      go_wp2_with (first
        | (with_reducible refine wp_label ?_)
        | fail)
      refine (fail_any 3 HY.out.rd).mono ?_
      rintro e w8 ⟨rfl, hr, hM⟩
      have HR8 := Lib.hid hr
      have HRS8 := Lib.hid (hM.blk HRES.out (by have := HLT.out; omega))
      have HM8 := Lib.hid (HMW.out.trans hM)
      clear hr hM
      go_wp2_with (first
        | (with_reducible refine wp_label ?_)
        | ((with_reducible refine wpList_build_c ?_ 27 [] ?_ [] ?_ frZ ?_ ?_); (· exact rfl); (· exact rfl); (· exact rfl); (· kernel_rfl))
        | ((with_reducible refine wpList_store_blk ?_ 27 (.tmp 2) (.tmp 64) ?_ w.heap.size ?_ frZ frZ ?_ 27 HRS8.out size_frZ rfl frZ_one ?_); (· exact rfl); (· exact rfl); (· exact rfl); (· exact rfl); intro w9 hB9 hM9; have HB9 := Lib.hid hB9; have HM9 := Lib.hid hM9; clear hB9 hM9)
        | fail)
      refine fwd_ret ?_
      have hl := blk_loadVar (P := Tryd.prog) HB9.out Tryd.underlying27 rfl size_frZ
      refine bodyPost_ret (v := .agg frZ) ?_ rfl ?_
      · exact results_cell Tryd.results34 _ rfl hl
      · rw [HE.out]
        exact ⟨.slice none 0 0, .slice none 0 0, rfl, OwnB.nil _ _, OwnR.nil _ _, rfl, HM9.out.rdr HR8.out (fun e => by have := HLT.out; omega) (fun b cs hb e => by subst e; exact HRS8.out.ne hb (by decide) rfl), HM8.out.trans' HM9.out (fun i hi e => by omega)⟩
    case true =>
      have HE : Hid (nextK t (fR, sR) = (fR, s3)) := by show _ = _; rw [nextK_good (by show (three t sR).e = 0; rw [HT3.out]; exact he3) hrt]; show (fR, three t sR) = _; rw [HT3.out]
      have LW := Lib.hid (blk_loadAt HY.out.fr)
      have HONE := Lib.hid (frC_one (HY.out.frv HQ.out))
      have HSZ := Lib.hid (sizeFr fR (.slice none 0 0) (.slice none 0 0) HY.out.fr.len)
      have HSS : Hid (frZ.size = (frC fR (.slice none 0 0) (.slice none 0 0)).size) := (frC_size fR (.slice none 0 0) (.slice none 0 0) HY.out.fr.len).symm
      clear he3 hrt
      go_wp2_with (first
        | ((with_reducible refine wpList_load_v 27 (.tmp 3) ?_ ?_ (.pointer (some ⟨w.heap.size + 1, 0, none⟩)) (frV fR (.slice none 0 0) (.slice none 0 0)) ?_ LW.out ?_); (· exact rfl); (· exact rfl); (· exact rfl))
        | ((with_reducible refine wpList_store_blk ?_ 27 (.tmp 2) (.tmp 61) ?_ w.heap.size ?_ frZ (frC fR (.slice none 0 0) (.slice none 0 0)) ?_ 27 HRES.out HSZ.out HSS.out HONE.out ?_); (· exact rfl); (· exact rfl); (· exact rfl); (· exact rfl); intro w9 hB9 hM9; have HB9 := Lib.hid hB9; have HM9 := Lib.hid hM9; clear hB9 hM9)
        | fail)
      refine fwd_ret ?_
      have hl := blk_loadVar (P := Tryd.prog) HB9.out Tryd.underlying27 rfl HSZ.out
      refine bodyPost_ret (v := frV fR (.slice none 0 0) (.slice none 0 0)) ?_ rfl ?_
      · exact results_cell Tryd.results34 _ rfl hl
      · rw [HE.out]
        refine ⟨(.slice none 0 0), (.slice none 0 0), rfl, ?_, ?_, HY.out.fr.len, HM9.out.rdr HY.out.rd (fun e => by have := HLT.out; omega) (fun b cs hb e => by subst e; exact HRES.out.ne hb (by decide) rfl), HMW.out.trans' HM9.out (fun i hi e => by omega)⟩
        · exact HM9.out.own (own_mono HY.out.od HX9.out) (fun g hg e => by have := (World.ownsRow.lt HY.out.od g hg).1; have := HX99.out; omega)
        · exact (show OwnR _ _ _ _ from own_mono HY.out.or HX9.out).kept HM9.out (fun g hg e => by have := (World.ownsRow.lt HY.out.or g hg).1; have := HX99.out; omega)
end Go.Proofs.YteegonadodmeeaaDoor
