/- Is a frame right: the program's. (printed by gengah.py) -/
import Derived.Test.YteegonadodmeeaaDoorGaD
import Derived.Test.YteegonadodmeeaaDoorGaE
import Derived.Test.YteegonadodmeeaaDoorGaF
import Derived.Test.YteegonadodmeeaaDoorGaG
import Derived.Deep.DeepCutAuto
namespace Go.Proofs.YteegonadodmeeaaDoor
open Go.RowKit Go.Maps

theorem wp_store_blk {P : Program} {op : Oper} {a : Act} {w : World} {K : Act → World → Prop} {Q : Exit → Act → World → Prop} (ty : TypeId) (x y : Operand) (ho : op.op = .store ty x y)
    (b : Nat) (hx : a.eval x = .pointer (some ⟨b, 0, none⟩)) (C cells : Array Value) (hy : a.eval y = .agg cells) (T : TypeId) (h : Blk w b C T) (hi : (P.info? ty).map (·.size) = some cells.size) (hl : C.size = cells.size) (h1 : ∀ v ∈ cells.toList, v.oneCell' = true)
    (k : ∀ w', Blk w' b cells T → Mod (fun k => k = b) w w' → K (a.put op.dst undef) w') : Oper.wp P op a w K Q := by
  obtain ⟨w', C', hr, hB, hs, he, hM⟩ := blk_store (P := P) 0 ty h hi (by omega) h1
  have e : C' = cells := by
    apply Array.toList_inj.1
    rw [he, List.drop_of_length_le (by simp; omega)]
    simp
  subst e
  unfold Oper.wp execOp
  simp only [ho, hx, hy, Instr.storeAt, Instr.sureAddr, Sem.run_bind, Sem.run_pure, Result.andThen_ok, hr]
  exact k w' hB hM
def Enter (fn : Nat) : Prop := ∀ (args : Array Value) (w : World), (callFunc fn args).run Tryd.prog w = .ok (.enter fn args) w
/-- As it is, of no kind. -/
def Fr.noK (f : Fr) : Fr := ⟨0, f.id, f.a, f.b, f.c, f.fl, f.d, f.rs, f.t⟩
/-- What a kind's 'has' gives. -/
def HasK (fn : Nat) (m : Mk) : Prop := ∀ (w : World) (f : Fr) (vd vr : Value), FrV w f vd vr → Calls Tryd.prog fn #[frV f vd vr] w fun e w' => ∃ gd gr, e = .returned (frV (onlyF m f).noK gd gr) ∧ FrV w' (onlyF m f).noK gd gr ∧ Mod (fun _ => False) w w'
def kdZ : Array Value := #[.nilFunc, .nilFunc, .nilFunc, .nilFunc]
theorem kd_size (a b c d : Value) : kdZ.size = (#[a, b, c, d] : Array Value).size := rfl
theorem kd_one {v3 v4 : Value} (fn1 fn2 : Nat) (h3 : v3.oneCell' = true) (h4 : v4.oneCell' = true) : ∀ v ∈ (#[fnV fn1, fnV fn2, v3, v4] : Array Value).toList, v.oneCell' = true := by
  intro v hv
  simp at hv
  rcases hv with rfl | rfl | rfl | rfl
  · rfl
  · rfl
  · exact h3
  · exact h4
theorem kdZ_one : ∀ v ∈ (#[.nilFunc, .nilFunc, .nilFunc, .nilFunc] : Array Value).toList, v.oneCell' = true := by
  intro v hv
  simp at hv
  subst hv
  rfl
theorem fr_setK (m : Mk) (f : Fr) (vd vr : Value) : (frC (onlyF m f).noK vd vr).setIfInBounds 0 (.int .i64 f.k) = frC (onlyF m f) vd vr := by
  apply Array.toList_inj.1; simp [frC, frL, Fr.noK, onlyF]
theorem right_top {f : Fr} (h : topB f = false) : rightF f = false := by
  unfold rightF
  split
  · rfl
  · rw [h]; rfl
theorem right_none {f : Fr} (h : maskK f.k = none) : rightF f = false := by unfold rightF; rw [h]
theorem right_some {f : Fr} {m : Mk} (h : maskK f.k = some m) (ht : topB f = true) : rightF f = (sameF f (onlyF m f) && okN f.k.toNat f) := by unfold rightF; rw [h]; simp [ht]
theorem run_max4 {P : Program} (ts : Array TypeId) (t : TypeId) (k : IntKind) (x y z u : Int) (w : World) : (Builtin.max_ ts t #[.int k x, .int k y, .int k z, .int k u]).run P w = .ok (.int k (max (max (max x y) z) u)) w := by
  simp [Builtin.max_, Builtin.max2]
  omega
theorem topB_no {f : Fr} (h : (4611686018427387903 : Int) < max (max (max (f.id : Int) f.a) f.b) f.c) : topB f = false := by
  cases hb : topB f
  · rfl
  · exfalso
    unfold topB topN at hb
    simp only [Bool.and_eq_true, decide_eq_true_eq] at hb
    omega
theorem topB_yes {f : Fr} (h : max (max (max (f.id : Int) f.a) f.b) f.c ≤ (4611686018427387903 : Int)) : topB f = true := by
  unfold topB topN
  simp only [Bool.and_eq_true, decide_eq_true_eq]
  omega
theorem maskN_le {n : Nat} (h : (maskN n).isSome = true) : n ≤ 30 := by
  unfold maskN at h
  split at h <;> first | omega | (simp at h)
theorem maskK_le {k : Int} (h : (maskK k).isSome = true) : 0 ≤ k ∧ k ≤ 30 := by
  unfold maskK at h
  split at h
  · exact ⟨by assumption, by have := maskN_le h; omega⟩
  · simp at h
set_option maxHeartbeats 8000000 in
set_option maxRecDepth 10000 in
theorem right_no {w : World} {f : Fr} {vd vr : Value} (hv : FrV w f vd vr) (hm : maskK f.k = none) (hok : okKey f.k) : Calls Tryd.prog 12 #[frV f vd vr] w fun e w' => e = .returned (.bool (rightF f)) ∧ Mod (fun _ => False) w w' := by
  rw [right_none hm]
  have hv' := hv
  have HS0 : Hid (FrB (w.alloc (.cells (frC f vd vr) 27)).drew w.heap.size f vd vr ∧ Mod (fun _ => False) w (w.alloc (.cells (frC f vd vr) 27)).drew) := ⟨(FrB.new w f vd vr hv.t).kept (Mod.refl _ _).drew, ((Mod.refl _ w).alloc _).drew⟩
  have HLEN := Lib.hid hv.t
  have HV := Lib.hid hv
  have HKF := Lib.hid (kinds_none hm)
  have HOK := Lib.hid hok
  clear hv hv' hm hok
  unfold frV
  go_enter Tryd.func12, Tryd.ntmps12
  go_upto_region 1 with fail
  go_cut [3, 4] (fun s3 s4 wx => ∃ kb, s3 = .pointer (some ⟨kb, 0, none⟩) ∧ s4 = .bool false ∧ Hid (Blk wx kb #[.nilFunc, .nilFunc, .nilFunc, .nilFunc] 48 ∧ FrB wx w.heap.size f vd vr ∧ Mod (fun _ => False) w wx))
  case first =>
    refine wp_region_held_drew (S := fun X => FrB X w.heap.size f vd vr ∧ Mod (fun _ => False) w X) (by kernel_rfl) HS0.out (fun hS => ?_)
    refine takeH (i := 1) (v := .pointer (some ⟨w.heap.size, 0, none⟩)) (some 8) rfl rfl (by kernel_rfl) (by kernel_rfl) (by kernel_rfl) (fun _ _ _ h => h) (Or.inl ⟨by rfl, fun X hX => ?_⟩) hS ?_
    · go_simp
    (try go_frame)
    refine takeH (i := 2) (v := .int .i64 f.k) (some 9) rfl rfl (by kernel_rfl) (by kernel_rfl) (by kernel_rfl) (fun _ _ _ h => h) (Or.inl ⟨by rfl, fun X hX => ?_⟩) hS ?_
    · have := hX.1.cells.1; go_simp
    (try go_frame)
    refine wpAnyH_ready (rs := [0, 7]) (by kernel_rfl) (by simp) ?_
    refine AllReadyH.cons rfl (fun K hK => ?_) (AllReadyH.cons rfl (fun K hK => ?_) AllReadyH.nil)
    · go_simp
      refine (kinds_any _).mono ?_
      rintro e X1 ⟨mb, rfl, hV, hk1⟩
      have hlk := hV.look2 (t := 50) (e := 48) HOK.out Tryd.underlying50 (zero_kind X1)
      rw [HKF.out] at hlk
      simp only [Option.getD_none, Option.isSome_none, kvZ] at hlk
      refine hK.out _ _ ⟨hS.1.kept hk1, hS.2.trans hk1⟩ (fun hS => ?_)
      clear hK K
      refine wpAnyH_ready (rs := [3, 7]) (by kernel_rfl) (by simp) ?_
      refine AllReadyH.cons rfl (fun K hK => ?_) (AllReadyH.cons rfl (fun K hK => ?_) AllReadyH.nil)
      · go_simp
        refine hK.out _ _ hS (fun hS => ?_)
        clear hK K
        refine takeH (i := 4) (v := .tuple #[.agg #[.nilFunc, .nilFunc, .nilFunc, .nilFunc], .bool false]) (some 6) rfl rfl (by kernel_rfl) (by kernel_rfl) (by kernel_rfl) (fun _ _ _ h => h) (Or.inl ⟨by rfl, fun X hX => ?_⟩) hS ?_
        · go_simp
        (try go_frame)
        refine takeH (i := 5) (v := .agg #[.nilFunc, .nilFunc, .nilFunc, .nilFunc]) (some 11) rfl rfl (by kernel_rfl) (by kernel_rfl) (by kernel_rfl) (fun _ _ _ h => h) (Or.inl ⟨by rfl, fun X hX => ?_⟩) hS ?_
        · go_simp
        (try go_frame)
        refine takeH (i := 6) (v := .bool false) (some 12) rfl rfl (by kernel_rfl) (by kernel_rfl) (by kernel_rfl) (fun _ _ _ h => h) (Or.inl ⟨by rfl, fun X hX => ?_⟩) hS ?_
        · go_simp
        (try go_frame)
        refine wpAnyH_ready (rs := [7]) (by kernel_rfl) (by simp) ?_
        refine AllReadyH.cons rfl (fun K hK => ?_) AllReadyH.nil
        go_simp
        have hb7 := Blk.new X1 #[.nilFunc, .nilFunc, .nilFunc, .nilFunc] 48
        have hk7 := (Mod.refl (fun _ => False) X1).alloc (.cells #[.nilFunc, .nilFunc, .nilFunc, .nilFunc] 48)
        have hlt := hS.1.blk.lt
        have hsz := hS.2.size
        refine hK.out _ _ ⟨hS.1.kept hk7, hS.2.trans hk7⟩ (fun hS => ?_)
        clear hK K
        refine wpAnyH_ready (rs := [8]) (by kernel_rfl) (by simp) ?_
        refine AllReadyH.cons rfl (fun K hK => ?_) AllReadyH.nil
        refine wp_store_blk 48 (.tmp 3) (.tmp 11) rfl X1.heap.size (by rfl) #[.nilFunc, .nilFunc, .nilFunc, .nilFunc] #[.nilFunc, .nilFunc, .nilFunc, .nilFunc] (by rfl) 48 hb7 (sizeKd _ _ _ _) rfl kdZ_one ?_
        intro X9 hB9 hM9
        have hM9' : Mod (fun _ => False) w X9 := hS.2.trans' hM9 (fun i hi e => by omega)
        have hF9 := hM9.blk hS.1.blk (by omega)
        refine hK.out _ _ ⟨⟨hF9, HLEN.out⟩, hM9'⟩ (fun hS => ?_)
        clear hK K
        refine wpAnyH_ready (rs := [9]) (by kernel_rfl) (by simp) ?_
        refine AllReadyH.cons rfl (fun K hK => ?_) AllReadyH.nil
        go_simp
        refine hK.out _ _ hS (fun hS => ?_)
        clear hK K
        refine wpAnyH_done (by kernel_rfl) ?_ _
        go_wp2_with fail
        go_meet
        exact ⟨X1.heap.size, rfl, rfl, ⟨hB9, hS.1, hS.2⟩⟩
      · go_simp
        have hb7 := Blk.new X1 #[.nilFunc, .nilFunc, .nilFunc, .nilFunc] 48
        have hk7 := (Mod.refl (fun _ => False) X1).alloc (.cells #[.nilFunc, .nilFunc, .nilFunc, .nilFunc] 48)
        have hV7 := hV.kept hk7 (fun h => h)
        have hlk7 := hV7.look2 (t := 50) (e := 48) HOK.out Tryd.underlying50 (zero_kind _)
        rw [HKF.out] at hlk7
        simp only [Option.getD_none, Option.isSome_none, kvZ] at hlk7
        have hlt := hS.1.blk.lt
        have hsz := hS.2.size
        refine hK.out _ _ ⟨hS.1.kept hk7, hS.2.trans hk7⟩ (fun hS => ?_)
        clear hK K
        refine wpAnyH_ready (rs := [3]) (by kernel_rfl) (by simp) ?_
        refine AllReadyH.cons rfl (fun K hK => ?_) AllReadyH.nil
        go_simp
        refine hK.out _ _ hS (fun hS => ?_)
        clear hK K
        refine takeH (i := 4) (v := .tuple #[.agg #[.nilFunc, .nilFunc, .nilFunc, .nilFunc], .bool false]) (some 6) rfl rfl (by kernel_rfl) (by kernel_rfl) (by kernel_rfl) (fun _ _ _ h => h) (Or.inl ⟨by rfl, fun X hX => ?_⟩) hS ?_
        · go_simp
        (try go_frame)
        refine takeH (i := 5) (v := .agg #[.nilFunc, .nilFunc, .nilFunc, .nilFunc]) (some 11) rfl rfl (by kernel_rfl) (by kernel_rfl) (by kernel_rfl) (fun _ _ _ h => h) (Or.inl ⟨by rfl, fun X hX => ?_⟩) hS ?_
        · go_simp
        (try go_frame)
        refine takeH (i := 6) (v := .bool false) (some 12) rfl rfl (by kernel_rfl) (by kernel_rfl) (by kernel_rfl) (fun _ _ _ h => h) (Or.inl ⟨by rfl, fun X hX => ?_⟩) hS ?_
        · go_simp
        (try go_frame)
        refine wpAnyH_ready (rs := [8]) (by kernel_rfl) (by simp) ?_
        refine AllReadyH.cons rfl (fun K hK => ?_) AllReadyH.nil
        refine wp_store_blk 48 (.tmp 3) (.tmp 11) rfl X1.heap.size (by rfl) #[.nilFunc, .nilFunc, .nilFunc, .nilFunc] #[.nilFunc, .nilFunc, .nilFunc, .nilFunc] (by rfl) 48 hb7 (sizeKd _ _ _ _) rfl kdZ_one ?_
        intro X9 hB9 hM9
        have hM9' : Mod (fun _ => False) w X9 := hS.2.trans' hM9 (fun i hi e => by omega)
        have hF9 := hM9.blk hS.1.blk (by omega)
        refine hK.out _ _ ⟨⟨hF9, HLEN.out⟩, hM9'⟩ (fun hS => ?_)
        clear hK K
        refine wpAnyH_ready (rs := [9]) (by kernel_rfl) (by simp) ?_
        refine AllReadyH.cons rfl (fun K hK => ?_) AllReadyH.nil
        go_simp
        refine hK.out _ _ hS (fun hS => ?_)
        clear hK K
        refine wpAnyH_done (by kernel_rfl) ?_ _
        go_wp2_with fail
        go_meet
        exact ⟨X1.heap.size, rfl, rfl, ⟨hB9, hS.1, hS.2⟩⟩
    · go_simp
      have hb7 : Blk _ (w.heap.size + 1) #[.nilFunc, .nilFunc, .nilFunc, .nilFunc] 48 := (Mod.refl (fun _ => False) _).drew.blk (new2 w (.cells (frC f vd vr) 27) #[.nilFunc, .nilFunc, .nilFunc, .nilFunc] 48) (fun h => h)
      clear hS
      refine hK.out _ _ ⟨(FrB.new w f vd vr HLEN.out).kept ((Mod.refl _ _).alloc _).drew, (((Mod.refl _ w).alloc _).alloc _).drew⟩ (fun hS => ?_)
      clear hK K
      refine wpAnyH_ready (rs := [0]) (by kernel_rfl) (by simp) ?_
      refine AllReadyH.cons rfl (fun K hK => ?_) AllReadyH.nil
      go_simp
      refine (kinds_any _).mono ?_
      rintro e X1 ⟨mb, rfl, hV, hk1⟩
      have hlk := hV.look2 (t := 50) (e := 48) HOK.out Tryd.underlying50 (zero_kind X1)
      rw [HKF.out] at hlk
      simp only [Option.getD_none, Option.isSome_none, kvZ] at hlk
      have hb8 := hk1.blk hb7 (fun h => h)
      refine hK.out _ _ ⟨hS.1.kept hk1, hS.2.trans hk1⟩ (fun hS => ?_)
      clear hK K
      refine wpAnyH_ready (rs := [3]) (by kernel_rfl) (by simp) ?_
      refine AllReadyH.cons rfl (fun K hK => ?_) AllReadyH.nil
      go_simp
      refine hK.out _ _ hS (fun hS => ?_)
      clear hK K
      refine takeH (i := 4) (v := .tuple #[.agg #[.nilFunc, .nilFunc, .nilFunc, .nilFunc], .bool false]) (some 6) rfl rfl (by kernel_rfl) (by kernel_rfl) (by kernel_rfl) (fun _ _ _ h => h) (Or.inl ⟨by rfl, fun X hX => ?_⟩) hS ?_
      · go_simp
      (try go_frame)
      refine takeH (i := 5) (v := .agg #[.nilFunc, .nilFunc, .nilFunc, .nilFunc]) (some 11) rfl rfl (by kernel_rfl) (by kernel_rfl) (by kernel_rfl) (fun _ _ _ h => h) (Or.inl ⟨by rfl, fun X hX => ?_⟩) hS ?_
      · go_simp
      (try go_frame)
      refine takeH (i := 6) (v := .bool false) (some 12) rfl rfl (by kernel_rfl) (by kernel_rfl) (by kernel_rfl) (fun _ _ _ h => h) (Or.inl ⟨by rfl, fun X hX => ?_⟩) hS ?_
      · go_simp
      (try go_frame)
      refine wpAnyH_ready (rs := [8]) (by kernel_rfl) (by simp) ?_
      refine AllReadyH.cons rfl (fun K hK => ?_) AllReadyH.nil
      refine wp_store_blk 48 (.tmp 3) (.tmp 11) rfl (w.heap.size + 1) (by rfl) #[.nilFunc, .nilFunc, .nilFunc, .nilFunc] #[.nilFunc, .nilFunc, .nilFunc, .nilFunc] (by rfl) 48 hb8 (sizeKd _ _ _ _) rfl kdZ_one ?_
      intro X9 hB9 hM9
      have hM9' : Mod (fun _ => False) w X9 := hS.2.trans' hM9 (fun i hi e => by omega)
      have hF9 := hM9.blk hS.1.blk (by omega)
      refine hK.out _ _ ⟨⟨hF9, HLEN.out⟩, hM9'⟩ (fun hS => ?_)
      clear hK K
      refine wpAnyH_ready (rs := [9]) (by kernel_rfl) (by simp) ?_
      refine AllReadyH.cons rfl (fun K hK => ?_) AllReadyH.nil
      go_simp
      refine hK.out _ _ hS (fun hS => ?_)
      clear hK K
      refine wpAnyH_done (by kernel_rfl) ?_ _
      go_wp2_with fail
      go_meet
      exact ⟨(w.heap.size + 1), rfl, rfl, ⟨hB9, hS.1, hS.2⟩⟩
  case rest =>
    obtain ⟨kb, rfl, rfl, HC⟩ := hcut
    go_wp2_with fail
    go_ret
    exact ⟨rfl, HC.out.2.2⟩
set_option maxHeartbeats 16000000 in
set_option maxRecDepth 10000 in
theorem right_kind {w : World} {f : Fr} {vd vr : Value} (hv : FrV w f vd vr) (hrl : (f.rs.length : Int) ≤ 100000) {m : Mk} (hm : maskK f.k = some m) {fn1 fn2 : Nat} {v3 v4 : Value} (hkf : kindsF f.k = some (.agg #[fnV fn1, fnV fn2, v3, v4]))
    (h1 : HasK fn1 m) (h2 : ∀ X, Mod (fun _ => False) w X → topB f = true → Calls Tryd.prog fn2 #[frV f vd vr] X fun e w' => e = .returned (.bool (okN f.k.toNat f)) ∧ Mod (fun _ => False) X w') (en1 : Enter fn1) (en2 : Enter fn2) (o3 : v3.oneCell' = true) (o4 : v4.oneCell' = true) (hok : okKey f.k) :
    Calls Tryd.prog 12 #[frV f vd vr] w fun e w' => e = .returned (.bool (rightF f)) ∧ Mod (fun _ => False) w w' := by
  have hv' := hv
  have HS0 : Hid (FrB (w.alloc (.cells (frC f vd vr) 27)).drew w.heap.size f vd vr ∧ Mod (fun _ => False) w (w.alloc (.cells (frC f vd vr) 27)).drew) := ⟨(FrB.new w f vd vr hv.t).kept (Mod.refl _ _).drew, ((Mod.refl _ w).alloc _).drew⟩
  have HLEN := Lib.hid hv.t
  have HV := Lib.hid hv
  have HKF := Lib.hid hkf
  have HOK := Lib.hid hok
  have HM := Lib.hid hm
  have H1 := Lib.hid h1
  have H2 := Lib.hid h2
  have HRL := Lib.hid hrl
  have HONE := Lib.hid (kd_one fn1 fn2 o3 o4)
  unfold Enter at en1 en2
  clear hv hv' hm hok hkf h1 h2 hrl o3 o4
  unfold frV
  go_enter Tryd.func12, Tryd.ntmps12
  go_upto_region 1 with fail
  go_cut [3, 4] (fun s3 s4 wx => ∃ kb, s3 = .pointer (some ⟨kb, 0, none⟩) ∧ s4 = .bool true ∧ Hid (Blk wx kb #[fnV fn1, fnV fn2, v3, v4] 48 ∧ FrB wx w.heap.size f vd vr ∧ Mod (fun _ => False) w wx))
  case first =>
    refine wp_region_held_drew (S := fun X => FrB X w.heap.size f vd vr ∧ Mod (fun _ => False) w X) (by kernel_rfl) HS0.out (fun hS => ?_)
    refine takeH (i := 1) (v := .pointer (some ⟨w.heap.size, 0, none⟩)) (some 8) rfl rfl (by kernel_rfl) (by kernel_rfl) (by kernel_rfl) (fun _ _ _ h => h) (Or.inl ⟨by rfl, fun X hX => ?_⟩) hS ?_
    · go_simp
    (try go_frame)
    refine takeH (i := 2) (v := .int .i64 f.k) (some 9) rfl rfl (by kernel_rfl) (by kernel_rfl) (by kernel_rfl) (fun _ _ _ h => h) (Or.inl ⟨by rfl, fun X hX => ?_⟩) hS ?_
    · have := hX.1.cells.1; go_simp
    (try go_frame)
    refine wpAnyH_ready (rs := [0, 7]) (by kernel_rfl) (by simp) ?_
    refine AllReadyH.cons rfl (fun K hK => ?_) (AllReadyH.cons rfl (fun K hK => ?_) AllReadyH.nil)
    · go_simp
      refine (kinds_any _).mono ?_
      rintro e X1 ⟨mb, rfl, hV, hk1⟩
      have hlk := hV.look2 (t := 50) (e := 48) HOK.out Tryd.underlying50 (zero_kind X1)
      rw [HKF.out] at hlk
      simp only [Option.getD_some, Option.isSome_some] at hlk
      refine hK.out _ _ ⟨hS.1.kept hk1, hS.2.trans hk1⟩ (fun hS => ?_)
      clear hK K
      refine wpAnyH_ready (rs := [3, 7]) (by kernel_rfl) (by simp) ?_
      refine AllReadyH.cons rfl (fun K hK => ?_) (AllReadyH.cons rfl (fun K hK => ?_) AllReadyH.nil)
      · go_simp
        refine hK.out _ _ hS (fun hS => ?_)
        clear hK K
        refine takeH (i := 4) (v := .tuple #[.agg #[fnV fn1, fnV fn2, v3, v4], .bool true]) (some 6) rfl rfl (by kernel_rfl) (by kernel_rfl) (by kernel_rfl) (fun _ _ _ h => h) (Or.inl ⟨by rfl, fun X hX => ?_⟩) hS ?_
        · go_simp
        (try go_frame)
        refine takeH (i := 5) (v := .agg #[fnV fn1, fnV fn2, v3, v4]) (some 11) rfl rfl (by kernel_rfl) (by kernel_rfl) (by kernel_rfl) (fun _ _ _ h => h) (Or.inl ⟨by rfl, fun X hX => ?_⟩) hS ?_
        · go_simp
        (try go_frame)
        refine takeH (i := 6) (v := .bool true) (some 12) rfl rfl (by kernel_rfl) (by kernel_rfl) (by kernel_rfl) (fun _ _ _ h => h) (Or.inl ⟨by rfl, fun X hX => ?_⟩) hS ?_
        · go_simp
        (try go_frame)
        refine wpAnyH_ready (rs := [7]) (by kernel_rfl) (by simp) ?_
        refine AllReadyH.cons rfl (fun K hK => ?_) AllReadyH.nil
        go_simp
        have hb7 := Blk.new X1 #[.nilFunc, .nilFunc, .nilFunc, .nilFunc] 48
        have hk7 := (Mod.refl (fun _ => False) X1).alloc (.cells #[.nilFunc, .nilFunc, .nilFunc, .nilFunc] 48)
        have hlt := hS.1.blk.lt
        have hsz := hS.2.size
        refine hK.out _ _ ⟨hS.1.kept hk7, hS.2.trans hk7⟩ (fun hS => ?_)
        clear hK K
        refine wpAnyH_ready (rs := [8]) (by kernel_rfl) (by simp) ?_
        refine AllReadyH.cons rfl (fun K hK => ?_) AllReadyH.nil
        refine wp_store_blk 48 (.tmp 3) (.tmp 11) rfl X1.heap.size (by rfl) #[.nilFunc, .nilFunc, .nilFunc, .nilFunc] #[fnV fn1, fnV fn2, v3, v4] (by rfl) 48 hb7 (sizeKd _ _ _ _) rfl HONE.out ?_
        intro X9 hB9 hM9
        have hM9' : Mod (fun _ => False) w X9 := hS.2.trans' hM9 (fun i hi e => by omega)
        have hF9 := hM9.blk hS.1.blk (by omega)
        refine hK.out _ _ ⟨⟨hF9, HLEN.out⟩, hM9'⟩ (fun hS => ?_)
        clear hK K
        refine wpAnyH_ready (rs := [9]) (by kernel_rfl) (by simp) ?_
        refine AllReadyH.cons rfl (fun K hK => ?_) AllReadyH.nil
        go_simp
        refine hK.out _ _ hS (fun hS => ?_)
        clear hK K
        refine wpAnyH_done (by kernel_rfl) ?_ _
        go_wp2_with fail
        go_meet
        exact ⟨X1.heap.size, rfl, rfl, ⟨hB9, hS.1, hS.2⟩⟩
      · go_simp
        have hb7 := Blk.new X1 #[.nilFunc, .nilFunc, .nilFunc, .nilFunc] 48
        have hk7 := (Mod.refl (fun _ => False) X1).alloc (.cells #[.nilFunc, .nilFunc, .nilFunc, .nilFunc] 48)
        have hV7 := hV.kept hk7 (fun h => h)
        have hlk7 := hV7.look2 (t := 50) (e := 48) HOK.out Tryd.underlying50 (zero_kind _)
        rw [HKF.out] at hlk7
        simp only [Option.getD_some, Option.isSome_some] at hlk7
        have hlt := hS.1.blk.lt
        have hsz := hS.2.size
        refine hK.out _ _ ⟨hS.1.kept hk7, hS.2.trans hk7⟩ (fun hS => ?_)
        clear hK K
        refine wpAnyH_ready (rs := [3]) (by kernel_rfl) (by simp) ?_
        refine AllReadyH.cons rfl (fun K hK => ?_) AllReadyH.nil
        go_simp
        refine hK.out _ _ hS (fun hS => ?_)
        clear hK K
        refine takeH (i := 4) (v := .tuple #[.agg #[fnV fn1, fnV fn2, v3, v4], .bool true]) (some 6) rfl rfl (by kernel_rfl) (by kernel_rfl) (by kernel_rfl) (fun _ _ _ h => h) (Or.inl ⟨by rfl, fun X hX => ?_⟩) hS ?_
        · go_simp
        (try go_frame)
        refine takeH (i := 5) (v := .agg #[fnV fn1, fnV fn2, v3, v4]) (some 11) rfl rfl (by kernel_rfl) (by kernel_rfl) (by kernel_rfl) (fun _ _ _ h => h) (Or.inl ⟨by rfl, fun X hX => ?_⟩) hS ?_
        · go_simp
        (try go_frame)
        refine takeH (i := 6) (v := .bool true) (some 12) rfl rfl (by kernel_rfl) (by kernel_rfl) (by kernel_rfl) (fun _ _ _ h => h) (Or.inl ⟨by rfl, fun X hX => ?_⟩) hS ?_
        · go_simp
        (try go_frame)
        refine wpAnyH_ready (rs := [8]) (by kernel_rfl) (by simp) ?_
        refine AllReadyH.cons rfl (fun K hK => ?_) AllReadyH.nil
        refine wp_store_blk 48 (.tmp 3) (.tmp 11) rfl X1.heap.size (by rfl) #[.nilFunc, .nilFunc, .nilFunc, .nilFunc] #[fnV fn1, fnV fn2, v3, v4] (by rfl) 48 hb7 (sizeKd _ _ _ _) rfl HONE.out ?_
        intro X9 hB9 hM9
        have hM9' : Mod (fun _ => False) w X9 := hS.2.trans' hM9 (fun i hi e => by omega)
        have hF9 := hM9.blk hS.1.blk (by omega)
        refine hK.out _ _ ⟨⟨hF9, HLEN.out⟩, hM9'⟩ (fun hS => ?_)
        clear hK K
        refine wpAnyH_ready (rs := [9]) (by kernel_rfl) (by simp) ?_
        refine AllReadyH.cons rfl (fun K hK => ?_) AllReadyH.nil
        go_simp
        refine hK.out _ _ hS (fun hS => ?_)
        clear hK K
        refine wpAnyH_done (by kernel_rfl) ?_ _
        go_wp2_with fail
        go_meet
        exact ⟨X1.heap.size, rfl, rfl, ⟨hB9, hS.1, hS.2⟩⟩
    · go_simp
      have hb7 : Blk _ (w.heap.size + 1) #[.nilFunc, .nilFunc, .nilFunc, .nilFunc] 48 := (Mod.refl (fun _ => False) _).drew.blk (new2 w (.cells (frC f vd vr) 27) #[.nilFunc, .nilFunc, .nilFunc, .nilFunc] 48) (fun h => h)
      clear hS
      refine hK.out _ _ ⟨(FrB.new w f vd vr HLEN.out).kept ((Mod.refl _ _).alloc _).drew, (((Mod.refl _ w).alloc _).alloc _).drew⟩ (fun hS => ?_)
      clear hK K
      refine wpAnyH_ready (rs := [0]) (by kernel_rfl) (by simp) ?_
      refine AllReadyH.cons rfl (fun K hK => ?_) AllReadyH.nil
      go_simp
      refine (kinds_any _).mono ?_
      rintro e X1 ⟨mb, rfl, hV, hk1⟩
      have hlk := hV.look2 (t := 50) (e := 48) HOK.out Tryd.underlying50 (zero_kind X1)
      rw [HKF.out] at hlk
      simp only [Option.getD_some, Option.isSome_some] at hlk
      have hb8 := hk1.blk hb7 (fun h => h)
      refine hK.out _ _ ⟨hS.1.kept hk1, hS.2.trans hk1⟩ (fun hS => ?_)
      clear hK K
      refine wpAnyH_ready (rs := [3]) (by kernel_rfl) (by simp) ?_
      refine AllReadyH.cons rfl (fun K hK => ?_) AllReadyH.nil
      go_simp
      refine hK.out _ _ hS (fun hS => ?_)
      clear hK K
      refine takeH (i := 4) (v := .tuple #[.agg #[fnV fn1, fnV fn2, v3, v4], .bool true]) (some 6) rfl rfl (by kernel_rfl) (by kernel_rfl) (by kernel_rfl) (fun _ _ _ h => h) (Or.inl ⟨by rfl, fun X hX => ?_⟩) hS ?_
      · go_simp
      (try go_frame)
      refine takeH (i := 5) (v := .agg #[fnV fn1, fnV fn2, v3, v4]) (some 11) rfl rfl (by kernel_rfl) (by kernel_rfl) (by kernel_rfl) (fun _ _ _ h => h) (Or.inl ⟨by rfl, fun X hX => ?_⟩) hS ?_
      · go_simp
      (try go_frame)
      refine takeH (i := 6) (v := .bool true) (some 12) rfl rfl (by kernel_rfl) (by kernel_rfl) (by kernel_rfl) (fun _ _ _ h => h) (Or.inl ⟨by rfl, fun X hX => ?_⟩) hS ?_
      · go_simp
      (try go_frame)
      refine wpAnyH_ready (rs := [8]) (by kernel_rfl) (by simp) ?_
      refine AllReadyH.cons rfl (fun K hK => ?_) AllReadyH.nil
      refine wp_store_blk 48 (.tmp 3) (.tmp 11) rfl (w.heap.size + 1) (by rfl) #[.nilFunc, .nilFunc, .nilFunc, .nilFunc] #[fnV fn1, fnV fn2, v3, v4] (by rfl) 48 hb8 (sizeKd _ _ _ _) rfl HONE.out ?_
      intro X9 hB9 hM9
      have hM9' : Mod (fun _ => False) w X9 := hS.2.trans' hM9 (fun i hi e => by omega)
      have hF9 := hM9.blk hS.1.blk (by omega)
      refine hK.out _ _ ⟨⟨hF9, HLEN.out⟩, hM9'⟩ (fun hS => ?_)
      clear hK K
      refine wpAnyH_ready (rs := [9]) (by kernel_rfl) (by simp) ?_
      refine AllReadyH.cons rfl (fun K hK => ?_) AllReadyH.nil
      go_simp
      refine hK.out _ _ hS (fun hS => ?_)
      clear hK K
      refine wpAnyH_done (by kernel_rfl) ?_ _
      go_wp2_with fail
      go_meet
      exact ⟨(w.heap.size + 1), rfl, rfl, ⟨hB9, hS.1, hS.2⟩⟩
  case rest =>
    obtain ⟨kb, rfl, rfl, HC⟩ := hcut
    obtain ⟨c0, c1, c2, c3, c4, c5, c6, c7⟩ := HC.out.2.1.cells
    have k0 : wc.cell? ⟨kb, 0, none⟩ = some (.func (.func fn1) #[] #[]) := HC.out.1.cellAt 0 rfl
    have k1 : wc.cell? ⟨kb, 1, none⟩ = some (.func (.func fn2) #[] #[]) := HC.out.1.cellAt 1 rfl
    have LW := Lib.hid (blk_loadAt HC.out.2.1)
    have hmx := fun (ts : Array TypeId) (t : TypeId) (X : World) => run_max4 (P := Tryd.prog) ts t .u64 (f.id : Int) f.a f.b f.c X
    obtain ⟨M, hM⟩ : ∃ M, M = max (max (max (f.id : Int) f.a) f.b) f.c := ⟨_, rfl⟩
    rw [← hM] at hmx
    have HMX := Lib.hid hM
    clear c5 c6 c7 hM
    go_wp2_with (first
      | ((with_reducible refine wpList_load_v 27 (.tmp 1) ?_ ?_ (.pointer (some ⟨w.heap.size, 0, none⟩)) (frV f vd vr) ?_ LW.out ?_); (· exact rfl); (· exact rfl); (· exact rfl))
      | fail)
    · go_ret
      refine ⟨ret_bool ?_, HC.out.2.2⟩
      exact (right_top (topB_no (by rw [← HMX.out]; assumption))).symm
    · have HTB := Lib.hid (show topB f = true from topB_yes (by rw [← HMX.out]; assumption))
      refine (H1.out wc f vd vr (HV.out.kept HC.out.2.2)).mono ?_
      rintro e X1 ⟨gd, gr, rfl, hg, hk1⟩
      have HG := Lib.hid hg
      have HK1 := Lib.hid hk1
      have d0 := hk1.cellAt c0 (fun h => h)
      have m1 := hk1.cellAt k1 (fun h => h)
      have HONE2 := Lib.hid (frC_one hg)
      have HSZ := Lib.hid (sizeFr (onlyF m f).noK gd gr hg.t)
      have HSS : Hid (frZ.size = (frC (onlyF m f).noK gd gr).size) := (frC_size _ gd gr hg.t).symm
      have hg16 := Lib.hid hg.t
      clear hg hk1 c0 c1 c2 c3 c4 k0 k1 LW
      unfold frV
      go_wp2_with (first
        | ((with_reducible refine wpList_store_blk ?_ 27 (.tmp 5) (.tmp 30) ?_ X1.heap.size ?_ frZ (frC (onlyF m f).noK gd gr) ?_ 27 (Blk.new _ _ _) HSZ.out HSS.out HONE2.out ?_); (· exact rfl); (· exact rfl); (· exact rfl); (· exact rfl); intro X2 hB2 hM2; have HM2 := Lib.hid (((Mod.refl (fun _ => False) X1).alloc _).trans' hM2 (fun i hi e => by omega)); have d0' := HM2.out.cellAt d0 (fun h => h); have m1' := HM2.out.cellAt m1 (fun h => h); have b0 : X2.cell? ⟨X1.heap.size, 0, none⟩ = some (.int .i64 0) := hB2.cellAt 0 rfl; have f0 := hB2.free 0; have HB2 := Lib.hid hB2; clear hB2 hM2 d0 m1; have LW1 : Hid (∀ v, (Instr.loadAt 27 (.pointer (some ⟨w.heap.size, 0, none⟩))).run Tryd.prog (X2.setCell ⟨X1.heap.size, 0, none⟩ v) = .ok (frV f vd vr) (X2.setCell ⟨X1.heap.size, 0, none⟩ v)) := (fun v => blk_loadAt (FrB.mk (((HC.out.2.1.kept HK1.out).kept HM2.out).blk.setOther (Nat.ne_of_lt (HC.out.2.1.kept HK1.out).blk.lt) v) HLEN.out)); have LW2 : Hid ((Instr.loadAt 27 (.pointer (some ⟨X1.heap.size, 0, none⟩))).run Tryd.prog (X2.setCell ⟨X1.heap.size, 0, none⟩ (.int .i64 f.k)) = .ok (frV (onlyF m f) gd gr) (X2.setCell ⟨X1.heap.size, 0, none⟩ (.int .i64 f.k))) := (blk_loadAt (f := onlyF m f) ⟨(fr_setK m f gd gr) ▸ HB2.out.set 0 _, hg16.out⟩))
        | ((with_reducible refine wpList_load_v 27 (.tmp 1) ?_ ?_ (.pointer (some ⟨w.heap.size, 0, none⟩)) (frV f vd vr) ?_ (LW1.out _) ?_); (· exact rfl); (· exact rfl); (· exact rfl))
        | ((with_reducible refine wpList_load_v 27 (.tmp 5) ?_ ?_ (.pointer (some ⟨X1.heap.size, 0, none⟩)) (frV (onlyF m f) gd gr) ?_ LW2.out ?_); (· exact rfl); (· exact rfl); (· exact rfl))
        | fail)
      have HM3 : Hid (Mod (fun _ => False) wc (X2.setCell ⟨X1.heap.size, 0, none⟩ (.int .i64 f.k))) := (HK1.out.trans HM2.out).setCell (fun h => by have := HK1.out.size; exact absurd h (by show ¬ X1.heap.size < _; omega)) _
      have HG3 : Hid (FrV (X2.setCell ⟨X1.heap.size, 0, none⟩ (.int .i64 f.k)) (onlyF m f) gd gr) := by
        have h := HG.out.kept (HM2.out.setCell (p := ⟨X1.heap.size, 0, none⟩) (fun h => absurd h (Nat.lt_irrefl _)) (.int .i64 f.k))
        exact ⟨h.d, h.r, h.t, h.dl, h.rl⟩
      have HV3 := Lib.hid ((HV.out.kept HC.out.2.2).kept HM3.out)
      have m2 := ((HM2.out.setCell (p := ⟨X1.heap.size, 0, none⟩) (fun h => absurd h (Nat.lt_irrefl _)) (.int .i64 f.k)).trans (Mod.refl _ _)).cellAt (show X1.cell? ⟨kb, 1, none⟩ = _ from HK1.out.cellAt (HC.out.1.cellAt 1 rfl) (fun h => h)) (fun h => h)
      have HRL2 : Hid (((onlyF m f).rs.length : Int) ≤ 100000) := by
        have := HRL.out
        show ((onlyF m f).rs.length : Int) ≤ 100000
        unfold onlyF
        cases m.r
        · simp
        · simpa using this
      have LWB := Lib.hid (FrB.mk (f := f) (vd := vd) (vr := vr) (((HC.out.2.1.kept HK1.out).kept HM2.out).blk.setOther (a := ⟨X1.heap.size, 0, none⟩) (Nat.ne_of_lt (HC.out.2.1.kept HK1.out).blk.lt) (.int .i64 f.k)) HLEN.out)
      clear d0' m1' b0 f0 LW1 LW2 HB2 HM2
      generalize X2.setCell ⟨X1.heap.size, 0, none⟩ (.int .i64 f.k) = X3 at *
      refine (same_fr HV3.out HG3.out HRL.out HRL2.out).mono ?_
      rintro e X4 ⟨rfl, hk4⟩
      have HRR := Lib.hid (right_some HM.out HTB.out)
      have HK4 := Lib.hid hk4
      have n1 : X4.cell? ⟨kb, 1, none⟩ = some (.func (.func fn2) #[] #[]) := hk4.cellAt m2 (fun h => h)
      have LW4 := Lib.hid (blk_loadAt (LWB.out.kept hk4))
      clear hk4 m2
      generalize hsm : sameF f (onlyF m f) = b at *
      cases b
      · clear hsm
        go_wp2_with fail
        go_ret
        refine ⟨ret_bool ?_, (HC.out.2.2.trans HM3.out).trans HK4.out⟩
        rw [HRR.out]; rfl
      · clear hsm
        go_wp2_with (first
          | ((with_reducible refine wpList_load_v 27 (.tmp 1) ?_ ?_ (.pointer (some ⟨w.heap.size, 0, none⟩)) (frV f vd vr) ?_ LW4.out ?_); (· exact rfl); (· exact rfl); (· exact rfl))
          | fail)
        refine (H2.out X4 ((HC.out.2.2.trans HM3.out).trans HK4.out) HTB.out).mono ?_
        rintro e X5 ⟨rfl, hk5⟩
        go_wp2_with fail
        go_ret
        refine ⟨ret_bool ?_, ((HC.out.2.2.trans HM3.out).trans HK4.out).trans hk5⟩
        rw [HRR.out]; simp
end Go.Proofs.YteegonadodmeeaaDoor
