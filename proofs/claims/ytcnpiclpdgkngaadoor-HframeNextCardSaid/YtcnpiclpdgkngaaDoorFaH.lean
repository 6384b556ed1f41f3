/- The program's Put of a frame. (printed by genfah.py) -/
import Derived.Test.YtcnpiclpdgkngaaDoorFaG
namespace Go.Proofs.YtcnpiclpdgkngaaDoor
open Go.RowKit

theorem exec_load {P : Program} {w : World} {a : Act} {op : Oper} {ty : TypeId} {x : Operand} (ho : op.op = .load ty x) {p v : Value} (hx : a.eval x = p) (hl : (Instr.loadAt ty p).run P w = .ok v w) : (execOp a.eval op).run P w = .ok (.value v) w := by
  unfold execOp
  simp only [ho, hx, Sem.run_bind, hl, Result.andThen_ok, Sem.run_pure]
theorem size26 (a b c d : Value) : (Tryd.prog.info? 26).map (·.size) = some (#[a, b, c, d] : Array Value).size := by show _ = some 4; kernel_rfl
theorem field0 (w : World) (a b : Nat) : (Instr.field 55 (.agg #[.func (.func a) #[] #[], .func (.func b) #[] #[]]) 0).run Tryd.prog w = .ok (.func (.func a) #[] #[]) w := by kernel_rfl
theorem zero_kind (w : World) : (zeroValue 55).run Tryd.prog w = .ok (.agg #[.nilFunc, .nilFunc]) w := by kernel_rfl
theorem right_kinds {f : HF} (h : rightH f = true) : f.k = 0 ∨ f.k = 1 ∨ f.k = 3 ∨ f.k = 4 ∨ f.k = 7 ∨ f.k = 13 := by
  by_cases h1 : f.k = 0 ∨ f.k = 1
  · omega
  by_cases h2 : f.k = 4
  · omega
  by_cases h3 : f.k = 3 ∨ f.k = 7 ∨ f.k = 13
  · omega
  rw [right_none ⟨h1, h2, h3⟩] at h
  cases h
theorem settings_ok {l : List (Nat × Nat)} (h : settingsB l = true) : (∀ s ∈ l, s.1 ≤ topN ∧ s.2 ≤ topN) ∧ l.length ≤ 16 := by
  unfold settingsB at h
  simp only [Bool.and_eq_true, decide_eq_true_eq] at h
  refine ⟨fun s hs => ?_, h.2⟩
  have := List.all_eq_true.1 h.1.1 s hs
  unfold okSet at this
  simp only [Bool.and_eq_true, decide_eq_true_eq] at this
  exact ⟨this.1.2, this.2⟩
theorem body_len {f : HF} (h : rightH f = true) : (bodyL f).length ≤ 1000 := by
  unfold bodyL
  by_cases h1 : f.k = 0 ∨ f.k = 1
  · rw [right_data h1] at h
    simp only [Bool.and_eq_true, decide_eq_true_eq] at h
    rw [if_pos (by unfold isData; simpa using h1)]
    exact h.2
  · rw [if_neg (by unfold isData; simpa using h1)]
    by_cases h2 : f.k = 4
    · rw [right_set h2] at h
      simp only [Bool.and_eq_true, decide_eq_true_eq] at h
      rw [if_pos h2]
      have := setL_len f.st
      have := (settings_ok h.2).2
      omega
    · rw [if_neg h2]
      have := putL_len f.id
      omega
set_option maxRecDepth 10000 in
theorem hput_no {w : World} {f : HF} {vs vd : Value} (hv : HFV w f vs vd) (hr : rightH f = false) : Calls Tryd.prog 15 #[hfA f vs vd] w fun e w' => ∃ v, e = .returned v ∧ OwnB w' w.heap.size v (hfputL f) ∧ Mod (fun _ => False) w w' := by
  have HR := Lib.hid (fun X (h : Mod (fun _ => False) w X) => right_any (hv.kept h))
  rw [hr] at HR
  rw [show hfputL f = [] by rw [hfputL, if_neg (by simp [hr])]]
  obtain ⟨sa, sc, rfl, _⟩ := set_val hv.st
  obtain ⟨da, dc, rfl, _⟩ := byts_val hv.d
  unfold hfA at *
  generalize f.st.length = ns at *
  generalize f.d.length = nd at *
  generalize (f.id : Int) = i at *
  clear hv hr
  generalize f.k = k at *
  go_enter Tryd.func15, Tryd.ntmps15
  go_wp2_with fail
  refine (HR.out _ ((Mod.refl _ w).alloc _)).mono ?_
  rintro e w1 ⟨rfl, hk1⟩
  go_wp2_with fail
  go_ret
  exact ⟨_, rfl, OwnB.nil _ _, ((Mod.refl (fun _ => False) w).alloc _).trans hk1⟩
/-- A kind's function puts the body. -/
def PutsBody (w : World) (f : HF) (vs vd : Value) (fn : Nat) : Prop := ∀ X, Mod (fun _ => False) w X → Calls Tryd.prog fn #[hfA f vs vd] X fun e w' => ∃ a c, e = .returned (.slice a (bodyL f).length c) ∧ Byts w' (.slice a (bodyL f).length c) (bodyL f) ∧ Mod (fun _ => False) X w'
set_option maxHeartbeats 8000000 in
set_option maxRecDepth 10000 in
theorem hput_kind {w : World} {f : HF} {vs vd : Value} (hT : Tabs w) (hv : HFV w f vs vd) (hr : rightH f = true) (z : Int) (hk : f.k = z) (h0 : 0 ≤ z ∧ z ≤ 13) (fn1 fn2 : Nat) (hkf : kindsF z = some (pairV fn1 fn2)) (hP : PutsBody w f vs vd fn1) (eg : ∀ args w, (callFunc fn1 args).run Tryd.prog w = .ok (.enter fn1 args) w) :
    Calls Tryd.prog 15 #[hfA f vs vd] w fun e w' => ∃ v, e = .returned v ∧ OwnB w' w.heap.size v (hfputL f) ∧ Mod (fun _ => False) w w' := by
  have HR := Lib.hid (fun X (h : Mod (fun _ => False) w X) => right_any (hv.kept h))
  rw [hr] at HR
  have HPUT := Lib.hid hP
  have HPU := Lib.hid (fun (n : Nat) X (h : Mod (fun _ => False) w X) => put_any n X (h.tabs hT (fun h => h)))
  have HKF := Lib.hid hkf
  have HOK := Lib.hid (okKey_small h0.1 (show z ≤ 100 by omega))
  have hzn : (f.k.toNat : Int) = z := by omega
  have HZN := Lib.hid hzn
  have hwz : IntKind.u64.wrap z = z := IntWalk.u64_in _ (by omega)
  obtain ⟨sa, sc, rfl, _⟩ := set_val hv.st
  obtain ⟨da, dc, rfl, _⟩ := byts_val hv.d
  have hbl := body_len hr
  have hwb : IntKind.u64.wrap ((bodyL f).length : Int) = ((bodyL f).length : Int) := IntWalk.u64_in _ (by omega)
  obtain ⟨L, hL⟩ : ∃ x, x = hfputL f := ⟨_, rfl⟩
  have HL : Hid (putL f.k.toNat ++ putL (bodyL f).length ++ bodyL f = L) := by show _ = _; rw [hL, hfputL, if_pos hr]
  have HPOS : Hid (0 < L.length) := by show 0 < _; rw [← HL.out]; have := putL_pos f.k.toNat (by unfold topN; omega); simp; omega
  have HLEN : Hid ((L.length : Int) ≤ 100000) := by
    show _ ≤ _
    rw [← HL.out]
    have h1 := putL_len f.k.toNat
    have h2 := putL_len (bodyL f).length
    simp only [List.length_append]
    omega
  rw [← hL]
  unfold PutsBody at HPUT
  generalize bodyL f = B at *
  unfold hfA at *
  rw [hk] at *
  generalize f.st.length = ns at *
  generalize f.d.length = nd at *
  generalize (f.id : Int) = i at *
  clear hP hkf hT hv hr hL hbl
  generalize z.toNat = zn at *
  clear hk
  clear hzn
  go_enter Tryd.func15, Tryd.ntmps15
  go_wp2_with fail
  refine (HR.out _ ((Mod.refl _ w).alloc _)).mono ?_
  rintro e w1 ⟨rfl, hk1⟩
  have hM1 := ((Mod.refl (fun _ => False) w).alloc _).trans hk1
  have hB1 := hk1.blk (Blk.new w #[.int .i64 z, .int .u64 i, .slice sa ns sc, .slice da nd dc] 26) (fun h => h)
  clear hk1
  have hM1d := hM1.drew
  have hB1d := (Mod.refl (fun _ => False) w1).drew.blk hB1 (fun h => h)
  go_wp2_with fail
  refine wp_region_held_drew (S := fun X => Blk X w.heap.size #[.int .i64 z, .int .u64 i, .slice sa ns sc, .slice da nd dc] 26 ∧ Mod (fun _ => False) w X) (by kernel_rfl) ⟨hB1d, hM1d⟩ (fun hS => ?_)
  refine wpAnyH_take (i := 1) (v := .pointer (some ⟨w.heap.size, 0, none⟩)) rfl (by kernel_rfl) (by kernel_rfl) (by kernel_rfl) (fun _ _ _ h => h) (Or.inl ⟨by rfl, fun X hX => ?_⟩) hS ?_
  · go_simp
  refine wpAnyH_take (i := 2) (v := .int .i64 z) rfl (by kernel_rfl) (by kernel_rfl) (by kernel_rfl) (fun _ _ _ h => h) (Or.inl ⟨by rfl, fun X hX => ?_⟩) hS ?_
  · have := hX.1.cellAt 0 rfl; go_simp
  refine wpAnyH_take (i := 5) (v := .agg #[.int .i64 z, .int .u64 i, .slice sa ns sc, .slice da nd dc]) rfl (by kernel_rfl) (by kernel_rfl) (by kernel_rfl) (fun _ _ _ h => h) (Or.inl ⟨by rfl, fun X hX => ?_⟩) hS ?_
  · exact exec_load rfl (p := .pointer (some ⟨w.heap.size, 0, none⟩)) (by rfl) (blk_loadVar hX.1 Tryd.underlying26 rfl (size26 _ _ _ _))
  refine wpAnyH_ready (rs := [0]) (by kernel_rfl) (by simp) ?_
  refine AllReadyH.cons rfl (fun K hK => ?_) AllReadyH.nil
  go_simp
  refine (kinds_any _).mono ?_
  rintro e X1 ⟨mb, rfl, hV, hk1⟩
  have hm1 := hM1d.trans hk1
  have hlk := hV.look (t := 56) (e := 55) HOK.out Tryd.underlying56 (zero_kind X1)
  rw [HKF.out] at hlk
  simp only [Option.getD_some] at hlk
  refine hK.out _ _ ⟨hk1.blk hB1d (fun h => h), hm1⟩ (fun hS => ?_)
  clear hK K
  refine wpAnyH_ready (rs := [3]) (by kernel_rfl) (by simp) ?_
  refine AllReadyH.cons rfl (fun K hK => ?_) AllReadyH.nil
  go_simp
  refine hK.out _ _ ⟨hk1.blk hB1d (fun h => h), hm1⟩ (fun hS => ?_)
  clear hK K
  refine wpAnyH_take (i := 4) (v := .func (.func fn1) #[] #[]) rfl (by kernel_rfl) (by kernel_rfl) (by kernel_rfl) (fun _ _ _ h => h) (Or.inl ⟨by rfl, fun X hX => ?_⟩) hS ?_
  · have := field0 X fn1 fn2; unfold pairV fnV; go_simp
  refine wpAnyH_ready (rs := [6]) (by kernel_rfl) (by simp) ?_
  refine AllReadyH.cons rfl (fun K hK => ?_) AllReadyH.nil
  go_simp
  refine (HPUT.out X1 hm1).mono ?_
  rintro e X2 ⟨a2, c2, rfl, hb2, hk2⟩
  have hm2 := hm1.trans hk2
  refine hK.out _ _ ⟨hk2.blk (hk1.blk hB1d (fun h => h)) (fun h => h), hm2⟩ (fun hS => ?_)
  clear hK K
  refine wpAnyH_ready (rs := [7]) (by kernel_rfl) (by simp) ?_
  refine AllReadyH.cons rfl (fun K hK => ?_) AllReadyH.nil
  go_simp
  refine hK.out _ _ ⟨hk2.blk (hk1.blk hB1d (fun h => h)) (fun h => h), hm2⟩ (fun hS => ?_)
  clear hK K
  refine wpAnyH_done (by kernel_rfl) ?_ _
  have hB3 := hk2.blk (hk1.blk hB1d (fun h => h)) (fun h => h)
  have hc3 := hB3.cellAt 0 rfl
  have HB2 := Lib.hid hb2
  have HM2 := Lib.hid hm2
  generalize hnb : B.length = nb at *
  clear hb2 hm2 hk1 hk2 hlk hV hS hM1 hM1d hB1 hB1d hB3
  go_wp2_with fail
  rw [← HZN.out]
  refine (HPU.out zn X2 HM2.out).mono ?_
  rintro e X3 ⟨v3, rfl, ho3, hk3⟩
  have HM3 := Lib.hid (HM2.out.trans hk3)
  have HB3 := Lib.hid (byts_kept HB2.out hk3)
  obtain ⟨a3, c3, rfl, _⟩ := byts_val ho3.byts
  have HO3 := Lib.hid ho3.byts
  clear ho3 hk3 HM2 HB2
  go_wp2_with fail
  refine (HPU.out nb X3 HM3.out).mono ?_
  rintro e X4 ⟨v4, rfl, ho4, hk4⟩
  have HM4 := Lib.hid (HM3.out.trans hk4)
  have HB4 := Lib.hid (byts_kept HB3.out hk4)
  have HO4 := Lib.hid (byts_kept HO3.out hk4)
  obtain ⟨a4, c4, rfl, _⟩ := byts_val ho4.byts
  have HP4 := Lib.hid ho4.byts
  clear ho4 hk4 HM3 HB3 HO3
  have HLL := Lib.hid HL.out
  generalize putL zn = p1 at *
  generalize putL nb = p2 at *
  generalize hn1 : p1.length = n1 at *
  generalize hn2 : p2.length = n2 at *
  have hR := (Mod.refl (fun _ => False) X4).alloc (.cells #[.slice a3 n1 c3, .slice a4 n2 c4, .slice a2 nb c2] 24)
  have bR := Blk.new X4 #[.slice a3 n1 c3, .slice a4 n2 c4, .slice a2 nb c2] 24
  have HC := Lib.hid (concat3 bR (byts_kept HO4.out hR) (byts_kept HP4.out hR) (byts_kept HB4.out hR) HL.out HLEN.out HPOS.out)
  clear bR
  have HRR := Lib.hid hR
  clear hR
  go_wp2_with fail
  refine (HC.out).mono ?_
  rintro e X5 ⟨v5, rfl, ho5, hk5⟩
  have HM5 := Lib.hid ((HM4.out.trans HRR.out).trans hk5)
  have HO5 := Lib.hid (ho5.mono (B' := w.heap.size) (by have := (HM4.out.trans HRR.out).size; exact this))
  clear ho5 hk5
  go_wp2_with fail
  go_ret
  exact ⟨_, rfl, HO5.out, HM5.out⟩
theorem enter_data (args : Array Value) (w : World) : (callFunc 49 args).run Tryd.prog w = .ok (.enter 49 args) w := by kernel_rfl
theorem enter_id (args : Array Value) (w : World) : (callFunc 51 args).run Tryd.prog w = .ok (.enter 51 args) w := by kernel_rfl
theorem enter_set (args : Array Value) (w : World) : (callFunc 53 args).run Tryd.prog w = .ok (.enter 53 args) w := by kernel_rfl
theorem body_of_own {X : World} {f : HF} {vs vd : Value} {fn : Nat} {B : List UInt8} (hB : bodyL f = B) (h : Calls Tryd.prog fn #[hfA f vs vd] X fun e w' => ∃ v, e = .returned v ∧ OwnB w' X.heap.size v B ∧ Mod (fun _ => False) X w') :
    Calls Tryd.prog fn #[hfA f vs vd] X fun e w' => ∃ a c, e = .returned (.slice a (bodyL f).length c) ∧ Byts w' (.slice a (bodyL f).length c) (bodyL f) ∧ Mod (fun _ => False) X w' := by
  subst hB
  refine h.mono ?_
  rintro e w' ⟨v, rfl, ho, hM⟩
  obtain ⟨a, c, rfl, _⟩ := byts_val ho.byts
  exact ⟨a, c, rfl, ho.byts, hM⟩
theorem hput_any {w : World} {f : HF} {vs vd : Value} (hT : Tabs w) (hv : HFV w f vs vd) : Calls Tryd.prog 15 #[hfA f vs vd] w fun e w' => ∃ v, e = .returned v ∧ OwnB w' w.heap.size v (hfputL f) ∧ Mod (fun _ => False) w w' := by
  cases hr : rightH f
  · exact hput_no hv hr
  · have hk := right_kinds hr
    have hd : f.k = 0 ∨ f.k = 1 → PutsBody w f vs vd 49 := fun h X hX => by
      have e : bodyL f = f.d := by unfold bodyL; rw [if_pos (by unfold isData; simpa using h)]
      rw [e]
      have hb := (hv.kept hX).d
      obtain ⟨a, c, rfl, _⟩ := byts_val hb
      refine (kput_data (hv.kept hX)).mono ?_
      rintro e w' ⟨rfl, hM⟩
      exact ⟨a, c, rfl, byts_kept hb hM, hM⟩
    have hi : f.k = 3 ∨ f.k = 7 ∨ f.k = 13 → PutsBody w f vs vd 51 := fun h X hX =>
      body_of_own (by unfold bodyL; rw [if_neg (by unfold isData; simp; omega), if_neg (by omega)]) (kput_id (hX.tabs hT (fun h => h)) (hv.kept hX))
    have hs : f.k = 4 → PutsBody w f vs vd 53 := fun h X hX => by
      have hr' := hr
      rw [right_set h] at hr'
      simp only [Bool.and_eq_true, decide_eq_true_eq] at hr'
      have hok := settings_ok hr'.2
      exact body_of_own (by unfold bodyL; rw [if_neg (by unfold isData; simp; omega), if_pos h]) (kput_set (hX.tabs hT (fun h => h)) (hv.kept hX) hok.1 (by omega))
    rcases hk with h | h | h | h | h | h
    · exact hput_kind hT hv hr 0 h (by decide) _ _ rfl (hd (.inl h)) enter_data
    · exact hput_kind hT hv hr 1 h (by decide) _ _ rfl (hd (.inr h)) enter_data
    · exact hput_kind hT hv hr 3 h (by decide) _ _ rfl (hi (.inl h)) enter_id
    · exact hput_kind hT hv hr 4 h (by decide) _ _ rfl (hs h) enter_set
    · exact hput_kind hT hv hr 7 h (by decide) _ _ rfl (hi (.inr (.inl h))) enter_id
    · exact hput_kind hT hv hr 13 h (by decide) _ _ rfl (hi (.inr (.inr h))) enter_id
end Go.Proofs.YtcnpiclpdgkngaaDoor
