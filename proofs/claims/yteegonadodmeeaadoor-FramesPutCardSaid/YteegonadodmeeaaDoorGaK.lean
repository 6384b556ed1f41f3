/- The kinds' functions that put, but an Ack's. (printed by gengak.py) -/
import Derived.Test.YteegonadodmeeaaDoorGaF
import Derived.Test.YteegonadodmeeaaDoorGaJ
import Derived.Test.YteegonadodmeeaaDoorPaA
namespace Go.Proofs.YteegonadodmeeaaDoor
open Go.RowKit

/-- What a kind's function puts. -/
def Puts (fn : Nat) (w : World) (f : Fr) (vd vr : Value) (L : List UInt8) : Prop := Calls Tryd.prog fn #[frV f vd vr] w fun e w' => ∃ v, e = .returned v ∧ Byts w' v L ∧ Mod (fun _ => False) w w'
theorem ints_lit2 (w : World) (o : Obj) (ns : List Nat) (cs : Array Value) (n : Nat) (T : TypeId) (hc : cs = (ns.map uv).toArray) (hn : ns.length = n) (hm : n ≤ maxLen) : Ints ((w.alloc o).alloc (.cells cs T)) (.slice (some ⟨w.heap.size + 1, 0, none⟩) n n) ns := by
  have h := ints_lit (w.alloc o) ns cs n T hc hn hm
  rw [show (w.alloc o).heap.size = w.heap.size + 1 by simp] at h
  exact h
set_option maxRecDepth 10000 in
theorem put10 {w : World} {f : Fr} {vd vr : Value} (hT : Tabs w) : Puts 48 w f vd vr (putL f.a) := by
  unfold Puts
  rw [show putL f.a = intsL [f.a] by simp [intsL]]
  have e2 : (frC f vd vr)[2]? = some (.int .u64 (f.a : Int)) := rfl
  have hM := ((Mod.refl (fun _ => False) w).alloc (.cells (frC f vd vr) 27)).alloc (.cells #[.int .u64 (f.a : Int)] 22)
  have HI := Lib.hid (ints_any (hM.tabs hT (fun h => h)) (ints_lit2 w (.cells (frC f vd vr) 27) [f.a] #[.int .u64 (f.a : Int)] 1 22 rfl rfl (by decide)) (by simp))
  have HM := Lib.hid hM
  unfold frV
  clear hT hM
  generalize frC f vd vr = C at *
  generalize intsL [f.a] = L at *
  generalize (f.a : Int) = xa at *
  go_enter Tryd.func48, Tryd.ntmps48
  go_wp2_with fail
  refine (HI.out).mono ?_
  rintro e w1 ⟨v, rfl, ho, hM1⟩
  have HO := Lib.hid ho.byts
  obtain ⟨a1, c1, rfl, _⟩ := byts_val ho.byts
  have HM1 := Lib.hid hM1
  clear ho hM1 HI
  generalize L.length = n at *
  go_wp2_with fail
  go_ret
  exact ⟨_, rfl, HO.out, HM.out.trans HM1.out⟩
set_option maxRecDepth 10000 in
theorem put11 {w : World} {f : Fr} {vd vr : Value} (hT : Tabs w) : Puts 49 w f vd vr (putL f.id ++ putL f.a) := by
  unfold Puts
  rw [show putL f.id ++ putL f.a = intsL [f.id, f.a] by simp [intsL]]
  have e1 : (frC f vd vr)[1]? = some (.int .u64 (f.id : Int)) := rfl
  have e2 : (frC f vd vr)[2]? = some (.int .u64 (f.a : Int)) := rfl
  have hM := ((Mod.refl (fun _ => False) w).alloc (.cells (frC f vd vr) 27)).alloc (.cells #[.int .u64 (f.id : Int), .int .u64 (f.a : Int)] 22)
  have HI := Lib.hid (ints_any (hM.tabs hT (fun h => h)) (ints_lit2 w (.cells (frC f vd vr) 27) [f.id, f.a] #[.int .u64 (f.id : Int), .int .u64 (f.a : Int)] 2 22 rfl rfl (by decide)) (by simp))
  have HM := Lib.hid hM
  unfold frV
  clear hT hM
  generalize frC f vd vr = C at *
  generalize intsL [f.id, f.a] = L at *
  generalize (f.id : Int) = xid at *
  generalize (f.a : Int) = xa at *
  go_enter Tryd.func49, Tryd.ntmps49
  go_wp2_with fail
  refine (HI.out).mono ?_
  rintro e w1 ⟨v, rfl, ho, hM1⟩
  have HO := Lib.hid ho.byts
  obtain ⟨a1, c1, rfl, _⟩ := byts_val ho.byts
  have HM1 := Lib.hid hM1
  clear ho hM1 HI
  generalize L.length = n at *
  go_wp2_with fail
  go_ret
  exact ⟨_, rfl, HO.out, HM.out.trans HM1.out⟩
set_option maxRecDepth 10000 in
theorem put20 {w : World} {f : Fr} {vd vr : Value} (hT : Tabs w) : Puts 62 w f vd vr (putL f.id ++ putL f.c ++ putL f.a) := by
  unfold Puts
  rw [show putL f.id ++ putL f.c ++ putL f.a = intsL [f.id, f.c, f.a] by simp [intsL]]
  have e1 : (frC f vd vr)[1]? = some (.int .u64 (f.id : Int)) := rfl
  have e4 : (frC f vd vr)[4]? = some (.int .u64 (f.c : Int)) := rfl
  have e2 : (frC f vd vr)[2]? = some (.int .u64 (f.a : Int)) := rfl
  have hM := ((Mod.refl (fun _ => False) w).alloc (.cells (frC f vd vr) 27)).alloc (.cells #[.int .u64 (f.id : Int), .int .u64 (f.c : Int), .int .u64 (f.a : Int)] 22)
  have HI := Lib.hid (ints_any (hM.tabs hT (fun h => h)) (ints_lit2 w (.cells (frC f vd vr) 27) [f.id, f.c, f.a] #[.int .u64 (f.id : Int), .int .u64 (f.c : Int), .int .u64 (f.a : Int)] 3 22 rfl rfl (by decide)) (by simp))
  have HM := Lib.hid hM
  unfold frV
  clear hT hM
  generalize frC f vd vr = C at *
  generalize intsL [f.id, f.c, f.a] = L at *
  generalize (f.id : Int) = xid at *
  generalize (f.c : Int) = xc at *
  generalize (f.a : Int) = xa at *
  go_enter Tryd.func62, Tryd.ntmps62
  go_wp2_with fail
  refine (HI.out).mono ?_
  rintro e w1 ⟨v, rfl, ho, hM1⟩
  have HO := Lib.hid ho.byts
  obtain ⟨a1, c1, rfl, _⟩ := byts_val ho.byts
  have HM1 := Lib.hid hM1
  clear ho hM1 HI
  generalize L.length = n at *
  go_wp2_with fail
  go_ret
  exact ⟨_, rfl, HO.out, HM.out.trans HM1.out⟩
set_option maxRecDepth 10000 in
theorem put23 {w : World} {f : Fr} {vd vr : Value} (hT : Tabs w) : Puts 65 w f vd vr (putL f.id ++ putL f.c) := by
  unfold Puts
  rw [show putL f.id ++ putL f.c = intsL [f.id, f.c] by simp [intsL]]
  have e1 : (frC f vd vr)[1]? = some (.int .u64 (f.id : Int)) := rfl
  have e4 : (frC f vd vr)[4]? = some (.int .u64 (f.c : Int)) := rfl
  have hM := ((Mod.refl (fun _ => False) w).alloc (.cells (frC f vd vr) 27)).alloc (.cells #[.int .u64 (f.id : Int), .int .u64 (f.c : Int)] 22)
  have HI := Lib.hid (ints_any (hM.tabs hT (fun h => h)) (ints_lit2 w (.cells (frC f vd vr) 27) [f.id, f.c] #[.int .u64 (f.id : Int), .int .u64 (f.c : Int)] 2 22 rfl rfl (by decide)) (by simp))
  have HM := Lib.hid hM
  unfold frV
  clear hT hM
  generalize frC f vd vr = C at *
  generalize intsL [f.id, f.c] = L at *
  generalize (f.id : Int) = xid at *
  generalize (f.c : Int) = xc at *
  go_enter Tryd.func65, Tryd.ntmps65
  go_wp2_with fail
  refine (HI.out).mono ?_
  rintro e w1 ⟨v, rfl, ho, hM1⟩
  have HO := Lib.hid ho.byts
  obtain ⟨a1, c1, rfl, _⟩ := byts_val ho.byts
  have HM1 := Lib.hid hM1
  clear ho hM1 HI
  generalize L.length = n at *
  go_wp2_with fail
  go_ret
  exact ⟨_, rfl, HO.out, HM.out.trans HM1.out⟩
set_option maxRecDepth 10000 in
theorem put37 {w : World} {f : Fr} {vd vr : Value} (hT : Tabs w) : Puts 84 w f vd vr (putL f.id) := by
  unfold Puts
  rw [show putL f.id = intsL [f.id] by simp [intsL]]
  have e1 : (frC f vd vr)[1]? = some (.int .u64 (f.id : Int)) := rfl
  have hM := ((Mod.refl (fun _ => False) w).alloc (.cells (frC f vd vr) 27)).alloc (.cells #[.int .u64 (f.id : Int)] 22)
  have HI := Lib.hid (ints_any (hM.tabs hT (fun h => h)) (ints_lit2 w (.cells (frC f vd vr) 27) [f.id] #[.int .u64 (f.id : Int)] 1 22 rfl rfl (by decide)) (by simp))
  have HM := Lib.hid hM
  unfold frV
  clear hT hM
  generalize frC f vd vr = C at *
  generalize intsL [f.id] = L at *
  generalize (f.id : Int) = xid at *
  go_enter Tryd.func84, Tryd.ntmps84
  go_wp2_with fail
  refine (HI.out).mono ?_
  rintro e w1 ⟨v, rfl, ho, hM1⟩
  have HO := Lib.hid ho.byts
  obtain ⟨a1, c1, rfl, _⟩ := byts_val ho.byts
  have HM1 := Lib.hid hM1
  clear ho hM1 HI
  generalize L.length = n at *
  go_wp2_with fail
  go_ret
  exact ⟨_, rfl, HO.out, HM.out.trans HM1.out⟩
set_option maxRecDepth 10000 in
theorem put12 {w : World} {f : Fr} {vd vr : Value} (hv : FrV w f vd vr) : Puts 50 w f vd vr f.d := by
  unfold Puts
  have hM := (Mod.refl (fun _ => False) w).alloc (.cells (frC f vd vr) 27)
  have HB := Lib.hid (byts_kept hv.d hM)
  have HM := Lib.hid hM
  obtain ⟨da, dc, rfl, _⟩ := byts_val hv.d
  have e6 : (frC f (.slice da f.d.length dc) vr)[6]? = some (.slice da f.d.length dc) := rfl
  unfold frV
  clear hv hM
  generalize frC f (.slice da f.d.length dc) vr = C at *
  generalize hn : f.d.length = n at *
  clear hn
  go_enter Tryd.func50, Tryd.ntmps50
  go_wp2
  go_ret
  exact ⟨_, rfl, HB.out, HM.out⟩
theorem put13 {w : World} {f : Fr} {vd vr : Value} : Puts 51 w f vd vr [] := by
  unfold Puts
  have HM := Lib.hid ((Mod.refl (fun _ => False) w).alloc (.cells (frC f vd vr) 27))
  unfold frV
  generalize frC f vd vr = C at *
  go_enter Tryd.func51, Tryd.ntmps51
  go_wp2
  go_ret
  exact ⟨_, rfl, Sl.nil _ _, HM.out⟩
set_option maxRecDepth 10000 in
theorem put29 {w : World} {f : Fr} {vd vr : Value} (hT : Tabs w) (hv : FrV w f vd vr) (hn : (f.d.length : Int) ≤ 100000) : Puts 73 w f vd vr (dataL f.d) := by
  unfold Puts
  have hM := (Mod.refl (fun _ => False) w).alloc (.cells (frC f vd vr) 27)
  have HD := Lib.hid (data_any (hM.tabs hT (fun h => h)) (byts_kept hv.d hM) hn)
  have HM := Lib.hid hM
  obtain ⟨da, dc, rfl, _⟩ := byts_val hv.d
  have e6 : (frC f (.slice da f.d.length dc) vr)[6]? = some (.slice da f.d.length dc) := rfl
  unfold frV
  clear hv hM hT hn
  generalize frC f (.slice da f.d.length dc) vr = C at *
  generalize dataL f.d = L at *
  generalize hn : f.d.length = n at *
  clear hn
  go_enter Tryd.func73, Tryd.ntmps73
  go_wp2_with fail
  refine (HD.out).mono ?_
  rintro e w1 ⟨v, rfl, ho, hM1⟩
  have HO := Lib.hid ho.byts
  obtain ⟨a1, c1, rfl, _⟩ := byts_val ho.byts
  have HM1 := Lib.hid hM1
  clear ho hM1 HD
  generalize L.length = n1 at *
  go_wp2_with fail
  go_ret
  exact ⟨_, rfl, HO.out, HM.out.trans HM1.out⟩
set_option maxRecDepth 10000 in
theorem put17 {w : World} {f : Fr} {vd vr : Value} (h1 : 1 ≤ f.a) (h2 : f.a ≤ 1200) : Puts 55 w f vd vr (List.replicate (f.a - 1) 0) := by
  unfold Puts
  have e2 : (frC f vd vr)[2]? = some (.int .u64 (f.a : Int)) := rfl
  have HM := Lib.hid ((Mod.refl (fun _ => False) w).alloc (.cells (frC f vd vr) 27))
  unfold frV
  generalize frC f vd vr = C at *
  generalize f.a = m at *
  obtain ⟨n, hn⟩ : ∃ n, n = m - 1 := ⟨_, rfl⟩
  rw [← hn]
  have hw : IntKind.u64.wrap ((m : Int) - 1) = (n : Int) := by rw [show (m : Int) - 1 = (n : Int) by omega]; exact IntWalk.u64_in _ (by omega)
  have hn2 : (n : Int) ≤ 1199 := by omega
  clear h1 h2 hn
  obtain ⟨i0, hi, hz0, hz1, hz2⟩ := info_parts Tryd.info5
  go_enter Tryd.func55, Tryd.ntmps55
  go_wp2_with (at_make; go_must (refine wpList_make_full _ rfl _ _ 23 rfl (w.heap.size + 1) 5 i0 (.int .u8 0) 1 Tryd.underlying23 hi hz0 hz1 _ _ _ _ n rfl rfl rfl rfl (by rw [hz2]; omega) (by unfold maxLen; omega) (by simp) ?_); intro w1 hown hgrow)
  have hb : Byts w1 (.slice (some ⟨w.heap.size + 1, 0, none⟩) n n) (List.replicate n 0) := by
    have h := Sl.ofOwn hown
    rw [Nat.mul_one, show (Value.int .u8 0).cells = #[.int .u8 0] from rfl, toList_madeCells_one, show (w.alloc (.cells C 27)).heap.size = w.heap.size + 1 by simp] at h
    have e : (List.replicate n (Value.int .u8 0)) = (List.replicate n (0 : UInt8)).map bv := by rw [List.map_replicate]; rfl
    rw [e] at h
    unfold Byts
    rw [List.length_replicate]
    exact h
  have HB := Lib.hid hb
  have HM1 := Lib.hid (HM.out.grown hgrow (fun k h => by simp at h))
  clear hb hown hgrow
  go_wp2
  go_ret
  exact ⟨_, rfl, HB.out, HM1.out⟩
set_option maxHeartbeats 4000000 in
set_option maxRecDepth 10000 in
theorem put26 {w : World} {f : Fr} {vd vr : Value} (hT : Tabs w) (hv : FrV w f vd vr) (hn : (f.d.length : Int) ≤ 100000) : Puts 69 w f vd vr (putL f.a ++ dataL f.d) := by
  unfold Puts
  rw [show putL f.a ++ dataL f.d = intsL [f.a] ++ dataL f.d by simp [intsL]]
  have HT := Lib.hid hT
  have HV := Lib.hid hv
  have HN := Lib.hid hn
  have HS0 : Hid (FrB (w.alloc (.cells (frC f vd vr) 27)).drew w.heap.size f vd vr ∧ Mod (fun _ => False) w (w.alloc (.cells (frC f vd vr) 27)).drew) := ⟨(FrB.new w f vd vr hv.t).kept (Mod.refl _ _).drew, ((Mod.refl _ w).alloc _).drew⟩
  have HSB : Hid (FrB ((w.alloc (.cells (frC f vd vr) 27)).alloc (.cells #[.int .u64 (f.a : Int)] 22)).drew w.heap.size f vd vr ∧ Mod (fun _ => False) w ((w.alloc (.cells (frC f vd vr) 27)).alloc (.cells #[.int .u64 (f.a : Int)] 22)).drew) := ⟨(FrB.new w f vd vr hv.t).kept ((Mod.refl _ _).alloc _).drew, (((Mod.refl _ w).alloc _).alloc _).drew⟩
  have HLT : Hid (Ints ((w.alloc (.cells (frC f vd vr) 27)).alloc (.cells #[.int .u64 (f.a : Int)] 22)).drew (.slice (some ⟨w.heap.size + 1, 0, none⟩) 1 1) [f.a]) := Sl.kept (ints_lit2 w _ [f.a] #[.int .u64 (f.a : Int)] 1 22 rfl rfl (by decide)) ((Mod.refl (fun _ => False) _).drew) (fun _ _ h => h)
  have HLB : Hid ((((intsL [f.a]).length + (dataL f.d).length : Nat) : Int) ≤ 140737488355328) := by
    show _ ≤ _
    have h1 := intsL_len [f.a]
    have h2 := putL_len f.d.length
    unfold dataL
    simp only [List.length_append, List.length_cons, List.length_nil] at h1 ⊢
    omega
  clear hT hv hn
  unfold frV
  go_enter Tryd.func69, Tryd.ntmps69
  go_wp2_with fail
  refine wp_region_held_drew (S := fun X => FrB X w.heap.size f vd vr ∧ Mod (fun _ => False) w X) (by kernel_rfl) HS0.out (fun hS => ?_)
  refine takeH (i := 0) (v := .pointer (some ⟨w.heap.size, 2, none⟩)) (some 3) rfl rfl (by kernel_rfl) (by kernel_rfl) (by kernel_rfl) (fun _ _ _ h => h) (Or.inl ⟨by rfl, fun X hX => ?_⟩) hS ?_
  · go_simp
  (try go_frame)
  refine takeH (i := 1) (v := .int .u64 (f.a : Int)) (some 4) rfl rfl (by kernel_rfl) (by kernel_rfl) (by kernel_rfl) (fun _ _ _ h => h) (Or.inl ⟨by rfl, fun X hX => ?_⟩) hS ?_
  · have := hX.1.cells.2.2.1; go_simp
  (try go_frame)
  refine takeH (i := 4) (v := .pointer (some ⟨w.heap.size, 6, none⟩)) (some 7) rfl rfl (by kernel_rfl) (by kernel_rfl) (by kernel_rfl) (fun _ _ _ h => h) (Or.inl ⟨by rfl, fun X hX => ?_⟩) hS ?_
  · go_simp
  (try go_frame)
  refine takeH (i := 5) (v := vd) (some 8) rfl rfl (by kernel_rfl) (by kernel_rfl) (by kernel_rfl) (fun _ _ _ h => h) (Or.inl ⟨by rfl, fun X hX => ?_⟩) hS ?_
  · have := hX.1.cells.2.2.2.2.2.2.1; go_simp
  (try go_frame)
  refine wpAnyH_ready (rs := [2]) (by kernel_rfl) (by simp) ?_
  refine AllReadyH.cons rfl (fun K hK => ?_) AllReadyH.nil
  go_simp
  refine hK.out _ _ HSB.out (fun hS => ?_)
  clear hK K
  refine wpAnyH_ready (rs := [3]) (by kernel_rfl) (by simp) ?_
  refine AllReadyH.cons rfl (fun K hK => ?_) AllReadyH.nil
  go_simp
  refine (ints_any (hS.2.tabs HT.out (fun h => h)) HLT.out (by simp)).mono ?_
  rintro e X1 ⟨v1, rfl, ho1, hk1⟩
  refine hK.out _ _ ⟨hS.1.kept hk1, hS.2.trans hk1⟩ (fun hS => ?_)
  clear hK K
  refine wpAnyH_ready (rs := [6]) (by kernel_rfl) (by simp) ?_
  refine AllReadyH.cons rfl (fun K hK => ?_) AllReadyH.nil
  go_simp
  refine (data_any (hS.2.tabs HT.out (fun h => h)) (byts_kept HV.out.d hS.2) HN.out).mono ?_
  rintro e X2 ⟨v2, rfl, ho2, hk2⟩
  refine hK.out _ _ ⟨hS.1.kept hk2, hS.2.trans hk2⟩ (fun hS => ?_)
  clear hK K
  refine wpAnyH_ready (rs := [7]) (by kernel_rfl) (by simp) ?_
  refine AllReadyH.cons rfl (fun K hK => ?_) AllReadyH.nil
  refine step_append_b rfl (.tmp 6) (.tmp 9) rfl v1 (intsL [f.a]) _ _ (by rfl) (ho1.keptF hk2) v2 (dataL f.d) (by rfl) ho2.byts (intsL [f.a] ++ dataL f.d) rfl rfl HLB.out (Nat.le_trans hk1.size hk2.size) ?_
  intro ap cp X3 hA
  have hM3 := hA.modF (hk1.trans hk2) (Nat.le_refl _)
  (try go_frame)
  refine hK.out _ _ ⟨HSB.out.1.kept hM3, HSB.out.2.trans hM3⟩ (fun hS => ?_)
  clear hK K
  refine wpAnyH_ready (rs := [8]) (by kernel_rfl) (by simp) ?_
  refine AllReadyH.cons rfl (fun K hK => ?_) AllReadyH.nil
  go_simp
  refine hK.out _ _ hS (fun hS => ?_)
  clear hK K
  refine wpAnyH_done (by kernel_rfl) ?_ _
  have HB := Lib.hid hA.byts
  have HM3 := Lib.hid hS.2
  generalize (intsL [f.a]).length + (dataL f.d).length = n at *
  clear hA hS hM3 ho1 ho2 hk1 hk2
  go_wp2_with fail
  go_ret
  exact ⟨_, rfl, HB.out, HM3.out⟩
set_option maxHeartbeats 4000000 in
set_option maxRecDepth 10000 in
theorem put40t {w : World} {f : Fr} {vd vr : Value} (hT : Tabs w) (hv : FrV w f vd vr) (hn : (f.d.length : Int) ≤ 100000) (hfl : f.fl = true) : Puts 87 w f vd vr (putL f.c ++ dataL f.d) := by
  unfold Puts
  rw [show putL f.c ++ dataL f.d = intsL [f.c] ++ dataL f.d by simp [intsL]]
  have HT := Lib.hid hT
  have HV := Lib.hid hv
  have HN := Lib.hid hn
  have HS0 : Hid (FrB (w.alloc (.cells (frC f vd vr) 27)).drew w.heap.size f vd vr ∧ Mod (fun _ => False) w (w.alloc (.cells (frC f vd vr) 27)).drew) := ⟨(FrB.new w f vd vr hv.t).kept (Mod.refl _ _).drew, ((Mod.refl _ w).alloc _).drew⟩
  have HSB : Hid (FrB ((w.alloc (.cells (frC f vd vr) 27)).alloc (.cells #[.int .u64 (f.c : Int)] 22)).drew w.heap.size f vd vr ∧ Mod (fun _ => False) w ((w.alloc (.cells (frC f vd vr) 27)).alloc (.cells #[.int .u64 (f.c : Int)] 22)).drew) := ⟨(FrB.new w f vd vr hv.t).kept ((Mod.refl _ _).alloc _).drew, (((Mod.refl _ w).alloc _).alloc _).drew⟩
  have HLT : Hid (Ints ((w.alloc (.cells (frC f vd vr) 27)).alloc (.cells #[.int .u64 (f.c : Int)] 22)).drew (.slice (some ⟨w.heap.size + 1, 0, none⟩) 1 1) [f.c]) := Sl.kept (ints_lit2 w _ [f.c] #[.int .u64 (f.c : Int)] 1 22 rfl rfl (by decide)) ((Mod.refl (fun _ => False) _).drew) (fun _ _ h => h)
  have HLB : Hid ((((intsL [f.c]).length + (dataL f.d).length : Nat) : Int) ≤ 140737488355328) := by
    show _ ≤ _
    have h1 := intsL_len [f.c]
    have h2 := putL_len f.d.length
    unfold dataL
    simp only [List.length_append, List.length_cons, List.length_nil] at h1 ⊢
    omega
  have e5 : (frC f vd vr)[5]? = some (.bool f.fl) := rfl
  rw [hfl] at e5
  clear hT hv hn hfl
  unfold frV
  go_enter Tryd.func87, Tryd.ntmps87
  go_wp2_with fail
  refine wp_region_held_drew (S := fun X => FrB X w.heap.size f vd vr ∧ Mod (fun _ => False) w X) (by kernel_rfl) HS0.out (fun hS => ?_)
  refine takeH (i := 0) (v := .pointer (some ⟨w.heap.size, 4, none⟩)) (some 5) rfl rfl (by kernel_rfl) (by kernel_rfl) (by kernel_rfl) (fun _ _ _ h => h) (Or.inl ⟨by rfl, fun X hX => ?_⟩) hS ?_
  · go_simp
  (try go_frame)
  refine takeH (i := 1) (v := .int .u64 (f.c : Int)) (some 6) rfl rfl (by kernel_rfl) (by kernel_rfl) (by kernel_rfl) (fun _ _ _ h => h) (Or.inl ⟨by rfl, fun X hX => ?_⟩) hS ?_
  · have := hX.1.cells.2.2.2.2.1; go_simp
  (try go_frame)
  refine takeH (i := 4) (v := .pointer (some ⟨w.heap.size, 6, none⟩)) (some 9) rfl rfl (by kernel_rfl) (by kernel_rfl) (by kernel_rfl) (fun _ _ _ h => h) (Or.inl ⟨by rfl, fun X hX => ?_⟩) hS ?_
  · go_simp
  (try go_frame)
  refine takeH (i := 5) (v := vd) (some 10) rfl rfl (by kernel_rfl) (by kernel_rfl) (by kernel_rfl) (fun _ _ _ h => h) (Or.inl ⟨by rfl, fun X hX => ?_⟩) hS ?_
  · have := hX.1.cells.2.2.2.2.2.2.1; go_simp
  (try go_frame)
  refine wpAnyH_ready (rs := [2]) (by kernel_rfl) (by simp) ?_
  refine AllReadyH.cons rfl (fun K hK => ?_) AllReadyH.nil
  go_simp
  refine hK.out _ _ HSB.out (fun hS => ?_)
  clear hK K
  refine wpAnyH_ready (rs := [3]) (by kernel_rfl) (by simp) ?_
  refine AllReadyH.cons rfl (fun K hK => ?_) AllReadyH.nil
  go_simp
  refine (ints_any (hS.2.tabs HT.out (fun h => h)) HLT.out (by simp)).mono ?_
  rintro e X1 ⟨v1, rfl, ho1, hk1⟩
  refine hK.out _ _ ⟨hS.1.kept hk1, hS.2.trans hk1⟩ (fun hS => ?_)
  clear hK K
  refine wpAnyH_ready (rs := [6]) (by kernel_rfl) (by simp) ?_
  refine AllReadyH.cons rfl (fun K hK => ?_) AllReadyH.nil
  go_simp
  refine (data_any (hS.2.tabs HT.out (fun h => h)) (byts_kept HV.out.d hS.2) HN.out).mono ?_
  rintro e X2 ⟨v2, rfl, ho2, hk2⟩
  refine hK.out _ _ ⟨hS.1.kept hk2, hS.2.trans hk2⟩ (fun hS => ?_)
  clear hK K
  refine wpAnyH_ready (rs := [7]) (by kernel_rfl) (by simp) ?_
  refine AllReadyH.cons rfl (fun K hK => ?_) AllReadyH.nil
  refine step_append_b rfl (.tmp 8) (.tmp 11) rfl v1 (intsL [f.c]) _ _ (by rfl) (ho1.keptF hk2) v2 (dataL f.d) (by rfl) ho2.byts (intsL [f.c] ++ dataL f.d) rfl rfl HLB.out (Nat.le_trans hk1.size hk2.size) ?_
  intro ap cp X3 hA
  have hM3 := hA.modF (hk1.trans hk2) (Nat.le_refl _)
  (try go_frame)
  refine hK.out _ _ ⟨HSB.out.1.kept hM3, HSB.out.2.trans hM3⟩ (fun hS => ?_)
  clear hK K
  refine wpAnyH_ready (rs := [8]) (by kernel_rfl) (by simp) ?_
  refine AllReadyH.cons rfl (fun K hK => ?_) AllReadyH.nil
  go_simp
  refine hK.out _ _ hS (fun hS => ?_)
  clear hK K
  refine wpAnyH_done (by kernel_rfl) ?_ _
  have HB := Lib.hid hA.byts
  have HM3 := Lib.hid hS.2
  generalize (intsL [f.c]).length + (dataL f.d).length = n at *
  clear hA hS hM3 ho1 ho2 hk1 hk2
  go_wp2_with fail
  go_ret
  exact ⟨_, rfl, HB.out, HM3.out⟩
set_option maxHeartbeats 4000000 in
set_option maxRecDepth 10000 in
theorem put40f {w : World} {f : Fr} {vd vr : Value} (hT : Tabs w) (hv : FrV w f vd vr) (hn : (f.d.length : Int) ≤ 100000) (hfl : f.fl = false) : Puts 87 w f vd vr (putL f.c ++ putL f.a ++ dataL f.d) := by
  unfold Puts
  rw [show putL f.c ++ putL f.a ++ dataL f.d = intsL [f.c, f.a] ++ dataL f.d by simp [intsL]]
  have HT := Lib.hid hT
  have HV := Lib.hid hv
  have HN := Lib.hid hn
  have HS0 : Hid (FrB (w.alloc (.cells (frC f vd vr) 27)).drew w.heap.size f vd vr ∧ Mod (fun _ => False) w (w.alloc (.cells (frC f vd vr) 27)).drew) := ⟨(FrB.new w f vd vr hv.t).kept (Mod.refl _ _).drew, ((Mod.refl _ w).alloc _).drew⟩
  have HSB : Hid (FrB ((w.alloc (.cells (frC f vd vr) 27)).alloc (.cells #[.int .u64 (f.c : Int), .int .u64 (f.a : Int)] 22)).drew w.heap.size f vd vr ∧ Mod (fun _ => False) w ((w.alloc (.cells (frC f vd vr) 27)).alloc (.cells #[.int .u64 (f.c : Int), .int .u64 (f.a : Int)] 22)).drew) := ⟨(FrB.new w f vd vr hv.t).kept ((Mod.refl _ _).alloc _).drew, (((Mod.refl _ w).alloc _).alloc _).drew⟩
  have HLT : Hid (Ints ((w.alloc (.cells (frC f vd vr) 27)).alloc (.cells #[.int .u64 (f.c : Int), .int .u64 (f.a : Int)] 22)).drew (.slice (some ⟨w.heap.size + 1, 0, none⟩) 2 2) [f.c, f.a]) := Sl.kept (ints_lit2 w _ [f.c, f.a] #[.int .u64 (f.c : Int), .int .u64 (f.a : Int)] 2 22 rfl rfl (by decide)) ((Mod.refl (fun _ => False) _).drew) (fun _ _ h => h)
  have HLB : Hid ((((intsL [f.c, f.a]).length + (dataL f.d).length : Nat) : Int) ≤ 140737488355328) := by
    show _ ≤ _
    have h1 := intsL_len [f.c, f.a]
    have h2 := putL_len f.d.length
    unfold dataL
    simp only [List.length_append, List.length_cons, List.length_nil] at h1 ⊢
    omega
  have e5 : (frC f vd vr)[5]? = some (.bool f.fl) := rfl
  rw [hfl] at e5
  clear hT hv hn hfl
  unfold frV
  go_enter Tryd.func87, Tryd.ntmps87
  go_wp2_with fail
  refine wp_region_held_drew (S := fun X => FrB X w.heap.size f vd vr ∧ Mod (fun _ => False) w X) (by kernel_rfl) HS0.out (fun hS => ?_)
  refine takeH (i := 0) (v := .pointer (some ⟨w.heap.size, 4, none⟩)) (some 13) rfl rfl (by kernel_rfl) (by kernel_rfl) (by kernel_rfl) (fun _ _ _ h => h) (Or.inl ⟨by rfl, fun X hX => ?_⟩) hS ?_
  · go_simp
  (try go_frame)
  refine takeH (i := 1) (v := .int .u64 (f.c : Int)) (some 14) rfl rfl (by kernel_rfl) (by kernel_rfl) (by kernel_rfl) (fun _ _ _ h => h) (Or.inl ⟨by rfl, fun X hX => ?_⟩) hS ?_
  · have := hX.1.cells.2.2.2.2.1; go_simp
  (try go_frame)
  refine takeH (i := 2) (v := .pointer (some ⟨w.heap.size, 2, none⟩)) (some 15) rfl rfl (by kernel_rfl) (by kernel_rfl) (by kernel_rfl) (fun _ _ _ h => h) (Or.inl ⟨by rfl, fun X hX => ?_⟩) hS ?_
  · go_simp
  (try go_frame)
  refine takeH (i := 3) (v := .int .u64 (f.a : Int)) (some 16) rfl rfl (by kernel_rfl) (by kernel_rfl) (by kernel_rfl) (fun _ _ _ h => h) (Or.inl ⟨by rfl, fun X hX => ?_⟩) hS ?_
  · have := hX.1.cells.2.2.1; go_simp
  (try go_frame)
  refine takeH (i := 6) (v := .pointer (some ⟨w.heap.size, 6, none⟩)) (some 19) rfl rfl (by kernel_rfl) (by kernel_rfl) (by kernel_rfl) (fun _ _ _ h => h) (Or.inl ⟨by rfl, fun X hX => ?_⟩) hS ?_
  · go_simp
  (try go_frame)
  refine takeH (i := 7) (v := vd) (some 20) rfl rfl (by kernel_rfl) (by kernel_rfl) (by kernel_rfl) (fun _ _ _ h => h) (Or.inl ⟨by rfl, fun X hX => ?_⟩) hS ?_
  · have := hX.1.cells.2.2.2.2.2.2.1; go_simp
  (try go_frame)
  refine wpAnyH_ready (rs := [4]) (by kernel_rfl) (by simp) ?_
  refine AllReadyH.cons rfl (fun K hK => ?_) AllReadyH.nil
  go_simp
  refine hK.out _ _ HSB.out (fun hS => ?_)
  clear hK K
  refine wpAnyH_ready (rs := [5]) (by kernel_rfl) (by simp) ?_
  refine AllReadyH.cons rfl (fun K hK => ?_) AllReadyH.nil
  go_simp
  refine (ints_any (hS.2.tabs HT.out (fun h => h)) HLT.out (by simp)).mono ?_
  rintro e X1 ⟨v1, rfl, ho1, hk1⟩
  refine hK.out _ _ ⟨hS.1.kept hk1, hS.2.trans hk1⟩ (fun hS => ?_)
  clear hK K
  refine wpAnyH_ready (rs := [8]) (by kernel_rfl) (by simp) ?_
  refine AllReadyH.cons rfl (fun K hK => ?_) AllReadyH.nil
  go_simp
  refine (data_any (hS.2.tabs HT.out (fun h => h)) (byts_kept HV.out.d hS.2) HN.out).mono ?_
  rintro e X2 ⟨v2, rfl, ho2, hk2⟩
  refine hK.out _ _ ⟨hS.1.kept hk2, hS.2.trans hk2⟩ (fun hS => ?_)
  clear hK K
  refine wpAnyH_ready (rs := [9]) (by kernel_rfl) (by simp) ?_
  refine AllReadyH.cons rfl (fun K hK => ?_) AllReadyH.nil
  refine step_append_b rfl (.tmp 18) (.tmp 21) rfl v1 (intsL [f.c, f.a]) _ _ (by rfl) (ho1.keptF hk2) v2 (dataL f.d) (by rfl) ho2.byts (intsL [f.c, f.a] ++ dataL f.d) rfl rfl HLB.out (Nat.le_trans hk1.size hk2.size) ?_
  intro ap cp X3 hA
  have hM3 := hA.modF (hk1.trans hk2) (Nat.le_refl _)
  (try go_frame)
  refine hK.out _ _ ⟨HSB.out.1.kept hM3, HSB.out.2.trans hM3⟩ (fun hS => ?_)
  clear hK K
  refine wpAnyH_ready (rs := [10]) (by kernel_rfl) (by simp) ?_
  refine AllReadyH.cons rfl (fun K hK => ?_) AllReadyH.nil
  go_simp
  refine hK.out _ _ hS (fun hS => ?_)
  clear hK K
  refine wpAnyH_done (by kernel_rfl) ?_ _
  have HB := Lib.hid hA.byts
  have HM3 := Lib.hid hS.2
  generalize (intsL [f.c, f.a]).length + (dataL f.d).length = n at *
  clear hA hS hM3 ho1 ho2 hk1 hk2
  go_wp2_with fail
  go_ret
  exact ⟨_, rfl, HB.out, HM3.out⟩
end Go.Proofs.YteegonadodmeeaaDoor
