/- Parts of the proof: RfE OpR OpS SxB. -/
import Derived.Test.YtolgeghdkoodnaaGreatDoorQ01
import Derived.Test.YtolgeghdkoodnaaGreatDoorQ13
import Derived.Test.YtolgeghdkoodnaaGreatDoorQr01
import Derived.Test.YtolgeghdkoodnaaGreatDoorQr02
import Derived.Maps.AppendAt
import Derived.Lib.SmallJoins
import Derived.Deep.SlicePairs
set_option maxRecDepth 100000
namespace Go.Proofs.YtolgeghdkoodnaaGreatDoor
open Go.RowKit
theorem refright_c {w : World} {f : Fr} {vd vr : Value} {C : Array Value} (hC : C = frC f vd vr) (hv : FrV w f vd vr) (hrl : (f.rs.length : Int) ≤ 100000) (hro : RngOk f) :
  Calls Tryz.prog 38 #[.agg C] w fun e w' => e = .returned (.bool (rightF f)) ∧ Mod (fun _ => False) w w' := by
 subst hC
 exact refright_any hv hrl hro
def partC (f : Fr) (c : UInt8) : List UInt8 :=
 if c = 105 then putL f.id
 else if c = 99 then putL f.c
 else if c = 97 then (if (f.k = 8 ∧ f.a = 0) ∨ (f.k = 28 ∧ f.fl = true) then [] else putL f.a)
 else if c = 100 then (if f.k ≠ 26 ∧ f.k ≠ 27 then putL f.d.length else []) ++ f.d
 else []
theorem part_all {f : Fr} (h : rightF f = true) (h0 : f.k ≠ 0) (h2 : f.k ≠ 2) (h24 : f.k ≠ 24) : fputL f = UInt8.ofNat (tagN f) :: (whatL f.k).flatMap (partC f) := by
 unfold fputL
 rw [if_pos h]
 obtain ⟨m, hm, _⟩ := right_parts h
 congr 1
 obtain ⟨k, id, a, b, c, fl, d, rs, t⟩ := f
 rcases kind_cases hm with hk | hk | hk | hk | hk | hk | hk | hk | hk | hk | hk | hk | hk | hk | hk | hk | hk | hk | hk | hk
 all_goals (simp only at hk; subst hk)
 all_goals first
  | exact absurd rfl h0
  | exact absurd rfl h2
  | exact absurd rfl h24
  | (simp [whatL, partC, bodyN, dataL]; done)
  | (by_cases ha : a = 0 <;> simp [whatL, partC, bodyN, dataL, ha]; done)
  | (cases fl <;> simp [whatL, partC, bodyN, dataL]; done)
theorem wpList_append_bx {w : World} {ops : Array Oper} {rest : List Oper} {o : Oper} {a : Act} {Q : Exit → Act → World → Prop} (hgd : o.guard = none) (s x : Operand)
  (ho : o.op = .call { callee := .builtin .append, args := #[s, x], argTypes := #[42, 42] })
  (v : Value) (l : List UInt8) (B n : Nat) (hs : a.eval s = v) (hown : OwnB w B v l)
  (sv : Value) (news : List UInt8) (hx : a.eval x = sv) (hsl : Byts w sv news) (L : List UInt8) (hL : L = l ++ news) (hn : l.length + news.length = n) (hbytes : (n : Int) ≤ 140737488355328) (hbase : B ≤ w.heap.size)
  (h : ∀ ap cp w', App w w' B n v (.slice ap n cp) L → ((Value.slice ap n cp).ownBlock = v.ownBlock ∨ (Value.slice ap n cp).ownBlock = some w.heap.size) → wpList Tryz.prog ops Q rest (a.put o.dst (.slice ap n cp)) w') : wpList Tryz.prog ops Q (o :: rest) a w := by
 subst hL
 obtain ⟨i0, hi, hz0, hz1, hz2⟩ := info_parts Tryz.info5
 obtain ⟨hl, ao, c, rfl, hc1, hc2, hc3, hc4⟩ := hsl
 cases ao with
 | none =>
  obtain rfl := hc3 rfl
  have h0 : news = [] := List.eq_nil_of_length_eq_zero (by omega)
  subst h0
  have hrun := run_append_owned_none (P := Tryz.prog) (w := w) B 42 o.type 5 i0 1 Tryz.underlying42 hi v l.length (l.map bv) hown
  refine wpList_plain hgd fun K hK => ?_
  obtain ⟨ap, cp, rfl, _⟩ := byts_val hown.byts
  have e : l.length = n := by simpa using hn
  have hap := h ap cp w (by
   rw [List.append_nil, ← e]
   exact ⟨hown, hown.byts, ⟨_, _, rfl⟩, fun hM _ => hM, fun g hg => (World.ownsRow.lt hown g hg).1⟩) (.inl (by rw [e]))
  unfold Oper.wp
  simp [execOp, ho, resolve, invoke, builtin, hs, hx, hrun, Result.andThen]
  rw [← e] at hap
  exact hK _ _ hap
 | some ad =>
  refine wpList_append_own_at w hgd s x 42 ho B 5 i0 (.int .u8 0) 1 1 Tryz.underlying42 hi hz0 hz1 hz2 rfl (by decide) v l.length (l.map bv) hs hown ad news.length c (news.map bv) hx (by simp) ?_ (bv_one _) (by unfold maxLen; omega) (by omega) hbase ?_
  ·intro j u hu
   obtain ⟨b, off, he, hcell⟩ := hc4 j u hu
   simp at he
   subst he
   rw [Addr.add_lit]
   exact hcell
  ·intro v' w' ho' hg _ hat
   have ho2 : OwnB w' B v' (l ++ news) := by unfold OwnB; simpa using ho'
   obtain ⟨ap, cp, rfl, _⟩ := byts_val ho2.byts
   have e : (l ++ news).length = n := by simpa using hn
   rw [e] at ho2 hat ⊢
   exact h ap cp w' ⟨ho2, ho2.byts, ⟨_, _, rfl⟩, fun hM hS => hM.grown hg (fun k hk hlt => hS k hk hlt), fun g hg' => (World.ownsRow.lt hown g hg').1⟩ hat
structure PtS (w0 w : World) (f : Fr) (vd vr v : Value) (L : List UInt8) (vz : Value) (LZ : List UInt8) : Prop where
 a : FrB w w0.heap.size f vd vr
 fv : FrV w0 f vd vr
 o : OwnB w w0.heap.size v L
 m : Mod (fun _ => False) w0 w
 z : Byts w vz LZ
 ap : ∀ g, blockOf vz = some g → ¬ v.ownBlock = some g
 lt : ∀ g, blockOf vz = some g → g < w.heap.size
theorem PtS.kept {w0 w w' : World} {f : Fr} {vd vr v vz : Value} {L LZ : List UInt8} (h : PtS w0 w f vd vr v L vz LZ) (hM : Mod (fun _ => False) w w') : PtS w0 w' f vd vr v L vz LZ :=
 ⟨h.a.kept hM, h.fv, h.o.keptF hM, h.m.trans hM, byts_kept h.z hM, h.ap, fun g hg => Nat.lt_of_lt_of_le (h.lt g hg) hM.size⟩
theorem PtS.app {w0 w w' : World} {f : Fr} {vd vr v v' vz : Value} {L L' LZ : List UInt8} {n : Nat} (h : PtS w0 w f vd vr v L vz LZ) (hA : App w w' w0.heap.size n v v' L') (hat : v'.ownBlock = v.ownBlock ∨ v'.ownBlock = some w.heap.size) : PtS w0 w' f vd vr v' L' vz LZ := by
 have hM : Mod (fun k => v.ownBlock = some k) w w' := hA.mod (w0 := w) (S := fun k => v.ownBlock = some k) (Mod.refl _ _) (fun g hg _ => hg)
 refine ⟨⟨hM.blk h.a.blk (OwnB.apart h.o h.a.blk (by decide)), h.a.len⟩, h.fv, hA.own, hA.modF h.m (Nat.le_refl _), hM.sl h.z (fun _ g hg => h.ap g hg), fun g hg e => ?_, fun g hg => Nat.lt_of_lt_of_le (h.lt g hg) hM.size⟩
 rcases hat with e2 | e2
 ·exact h.ap g hg (e2 ▸ e)
 ·rw [e2] at e
  have := Option.some.inj e
  have := h.lt g hg
  omega
theorem PtS.made {w0 w : World} {f : Fr} {vd vr : Value} {z : Int} {n : Nat} (ha : FrB w w0.heap.size f vd vr) (hf : FrV w0 f vd vr) (hm : Mod (fun _ => False) w0 w) (hz : (n : Int) = z) (hn : n ≤ 255) : PtS w0 (w.alloc (.cells #[.int .u8 z] 5)) f vd vr (.slice (some ⟨w.heap.size, 0, none⟩) 1 1) [UInt8.ofNat n] (.slice none 0 0) [] :=
 ⟨ha.kept ((Mod.refl _ _).alloc _), hf, tag_own w w0.heap.size hz hn hm.size, hm.alloc _, Sl.nil _ _, fun g hg => by simp [blockOf] at hg, fun g hg => by simp [blockOf] at hg⟩
theorem PtS.setz {w0 w w' : World} {f : Fr} {vd vr v v0 vz : Value} {L L0 LZ : List UInt8} (h : PtS w0 w f vd vr v L v0 L0) (hM : Mod (fun _ => False) w w') (ho : OwnB w' w.heap.size vz LZ) : PtS w0 w' f vd vr v L vz LZ := by
 have hb : ∀ g, blockOf vz = some g → vz.ownBlock = some g := by
  intro g hg
  rcases ho.2 with ⟨rfl, _⟩ | ⟨g', cap, cur, rfl, _⟩
  ·simp [blockOf] at hg
  ·simpa [blockOf, Value.ownBlock] using hg
 refine ⟨h.a.kept hM, h.fv, h.o.keptF hM, h.m.trans hM, ho.byts, fun g hg e => ?_, fun g hg => (World.ownsRow.lt ho g (hb g hg)).2⟩
 have h1 := (World.ownsRow.lt ho g (hb g hg)).1
 have h2 := (World.ownsRow.lt h.o g e).2
 omega
theorem str_at (S : List UInt8) : ∀ (i : Nat) (c : UInt8) (X : World), S[i]? = some c → (Instr.index 9 (.string ⟨S.toArray⟩) (.int .i64 (i : Int))).run Tryz.prog X = .ok (.int .u8 (c.toNat : Int)) X := by
 intro i c X h
 obtain ⟨hi, e⟩ := List.getElem?_eq_some_iff.1 h
 have hs : (ByteArray.mk S.toArray).size = S.length := by simp [ByteArray.size]
 rw [run_index_string X 9 ⟨S.toArray⟩ .i64 (i : Int) Tryz.underlying9, dif_pos ⟨by omega, by rw [hs]; omega⟩]
 have : (ByteArray.mk S.toArray)[(i : Int).toNat]'(by rw [hs]; omega) = c := by
  show S.toArray[(i : Int).toNat]'_ = c
  simpa using e
 rw [this]
theorem PtS.tok {w0 w : World} {f : Fr} {vd vr v vz : Value} {L LZ : List UInt8} (h : PtS w0 w f vd vr v L vz LZ) : Byts w (.slice (some ⟨w0.heap.size, 8, none⟩) 16 16) f.t := by
 have h16 := h.a.len
 refine ⟨by simp, some ⟨w0.heap.size, 8, none⟩, 16, by rw [h16], by omega, by decide, fun e => by simp at e, fun j u hu => ⟨w0.heap.size, 8, rfl, h.a.tok j u hu⟩⟩
theorem tag_le {f : Fr} (h : rightF f = true) : tagN f ≤ 255 := by
 obtain ⟨m, hm, _⟩ := right_parts h
 unfold tagN
 rcases kind_cases hm with hk | hk | hk | hk | hk | hk | hk | hk | hk | hk | hk | hk | hk | hk | hk | hk | hk | hk | hk | hk
 all_goals (rw [hk]; split <;> split <;> (try split) <;> omega)
set_option maxHeartbeats 16000000 in
set_option maxRecDepth 10000 in
theorem refput_no {w : World} {f : Fr} {vd vr : Value} (hv : FrV w f vd vr) (hrl : (f.rs.length : Int) ≤ 100000) (hro : RngOk f) (hr : rightF f = false) :
  Calls Tryz.prog 16 #[frV f vd vr] w fun e w' => ∃ v, e = .returned v ∧ OwnB w' w.heap.size v (fputL f) ∧ Mod (fun _ => False) w w' := by
 obtain ⟨R, hR⟩ : ∃ R, R = fputL f := ⟨_, rfl⟩
 rw [← hR]
 have HRR := Lib.hid hR
 have HV := Lib.hid hv
 have HF0 := Lib.hid (FrB.new w f vd vr hv.t)
 have HM0 : Hid (Mod (fun _ => False) w (w.alloc (.cells (frC f vd vr) 52))) := (Mod.refl _ _).alloc _
 obtain ⟨da, dc, rfl, _⟩ := byts_val hv.d
 obtain ⟨ra, rc, rfl, hrc, _⟩ := rg_val hv.r
 have HRT := Lib.hid (fun (X : World) (C : Array Value) (hC : C = frC f (.slice da f.d.length dc) (.slice ra f.rs.length rc)) (h : Mod (fun _ => False) w X) => refright_c hC (hv.kept h) hrl hro)
 have hdl := hv.dl
 obtain ⟨nd, hnd⟩ : ∃ n, f.d.length = n := ⟨_, rfl⟩
 obtain ⟨nr, hnr⟩ : ∃ n, f.rs.length = n := ⟨_, rfl⟩
 have HND := Lib.hid hnd
 have HNR := Lib.hid hnr
 rw [hnd, hnr] at HV HF0 HM0 HRT ⊢
 rw [hnd] at hdl
 rw [hnr] at hrl hrc
 have hrc2 : (nr : Int) ≤ rc := by omega
 obtain ⟨C, hC⟩ : ∃ C, C = frC f (.slice da nd dc) (.slice ra nr rc) := ⟨_, rfl⟩
 have HC := Lib.hid hC
 unfold frV
 rw [← hC] at HM0 ⊢
 have HF1 : Hid (FrB (w.alloc (.cells C 52)) w.heap.size f (.slice da nd dc) (.slice ra nr rc)) := by show FrB _ _ _ _ _; rw [hC]; exact HF0.out
 have HLD : Hid ((Instr.loadAt 52 (.pointer (some ⟨w.heap.size, 0, none⟩))).run Tryz.prog (w.alloc (.cells C 52)) = .ok (.agg C) (w.alloc (.cells C 52))) := by
  have h := blk_loadAt HF1.out
  unfold frV at h
  rwa [← HC.out] at h
 clear HF0 hR hv hro hnd hnr hC hrc
 go_enter Tryz.func16, Tryz.ntmps16
 go_wp2_with (first | ((with_reducible refine wpList_load_v 52 (.tmp 1) ?_ ?_ (.pointer (some ⟨w.heap.size, 0, none⟩)) (.agg C) ?_ HLD.out ?_); (· exact rfl); (· exact rfl); (· exact rfl)) | fail)
 refine (HRT.out _ C HC.out HM0.out).mono ?_
 rintro e w2 ⟨rfl, hM2⟩
 have HM2 := Lib.hid (HM0.out.trans hM2)
 have HF2 := Lib.hid (HF1.out.kept hM2)
 clear hM2 HM0 HF1 HRT
 rw [hr]
 have hR0 : R = [] := by rw [HRR.out]; unfold fputL; rw [hr]; rfl
 subst hR0
 clear hr
 go_wp2_with fail
 go_ret
 exact ⟨_, rfl, OwnB.nil _ _, HM2.out⟩
set_option maxHeartbeats 16000000 in
set_option maxRecDepth 10000 in
theorem refput_e00 {w : World} {f : Fr} {vd vr : Value} (hv : FrV w f vd vr) (hrl : (f.rs.length : Int) ≤ 100000) (hro : RngOk f) (hr : rightF f = true) (hk : f.k = 8) (hfl : f.fl = false) (ha : f.a = 0) :
  Calls Tryz.prog 16 #[frV f vd vr] w fun e w' => ∃ v, e = .returned v ∧ OwnB w' w.heap.size v (fputL f) ∧ Mod (fun _ => False) w w' := by
 obtain ⟨R, hR⟩ : ∃ R, R = fputL f := ⟨_, rfl⟩
 rw [← hR]
 have HRR := Lib.hid hR
 have HV := Lib.hid hv
 have HF0 := Lib.hid (FrB.new w f vd vr hv.t)
 have HM0 : Hid (Mod (fun _ => False) w (w.alloc (.cells (frC f vd vr) 52))) := (Mod.refl _ _).alloc _
 obtain ⟨da, dc, rfl, _⟩ := byts_val hv.d
 obtain ⟨ra, rc, rfl, hrc, _⟩ := rg_val hv.r
 have HRT := Lib.hid (fun (X : World) (C : Array Value) (hC : C = frC f (.slice da f.d.length dc) (.slice ra f.rs.length rc)) (h : Mod (fun _ => False) w X) => refright_c hC (hv.kept h) hrl hro)
 have hdl := hv.dl
 obtain ⟨nd, hnd⟩ : ∃ n, f.d.length = n := ⟨_, rfl⟩
 obtain ⟨nr, hnr⟩ : ∃ n, f.rs.length = n := ⟨_, rfl⟩
 have HND := Lib.hid hnd
 have HNR := Lib.hid hnr
 rw [hnd, hnr] at HV HF0 HM0 HRT ⊢
 rw [hnd] at hdl
 rw [hnr] at hrl hrc
 have hrc2 : (nr : Int) ≤ rc := by omega
 obtain ⟨C, hC⟩ : ∃ C, C = frC f (.slice da nd dc) (.slice ra nr rc) := ⟨_, rfl⟩
 have HC := Lib.hid hC
 unfold frV
 rw [← hC] at HM0 ⊢
 have HF1 : Hid (FrB (w.alloc (.cells C 52)) w.heap.size f (.slice da nd dc) (.slice ra nr rc)) := by show FrB _ _ _ _ _; rw [hC]; exact HF0.out
 have HLD : Hid ((Instr.loadAt 52 (.pointer (some ⟨w.heap.size, 0, none⟩))).run Tryz.prog (w.alloc (.cells C 52)) = .ok (.agg C) (w.alloc (.cells C 52))) := by
  have h := blk_loadAt HF1.out
  unfold frV at h
  rwa [← HC.out] at h
 clear HF0 hR hv hro hnd hnr hC hrc
 go_enter Tryz.func16, Tryz.ntmps16
 go_wp2_with (first | ((with_reducible refine wpList_load_v 52 (.tmp 1) ?_ ?_ (.pointer (some ⟨w.heap.size, 0, none⟩)) (.agg C) ?_ HLD.out ?_); (· exact rfl); (· exact rfl); (· exact rfl)) | fail)
 refine (HRT.out _ C HC.out HM0.out).mono ?_
 rintro e w2 ⟨rfl, hM2⟩
 have HM2 := Lib.hid (HM0.out.trans hM2)
 have HF2 := Lib.hid (HF1.out.kept hM2)
 clear hM2 HM0 HF1 HRT
 have HRF := Lib.hid hr
 rw [hr]
 have hnd2 : (nd : Int) ≤ 1200 := by have := (right_len hr).1; have := HND.out; omega
 obtain ⟨c0, c1, c2, c3, c4, c5, c6, c7⟩ := HF2.out.cells
 have HCX := Lib.hid (fun (X : World) (h : Mod (fun _ => False) w2 X) => (HF2.out.kept h).cells)
 have HTG : Hid (tagN f ≤ 255) := tag_le hr
 have hw0 : IntKind.u64.wrap (nd : Int) = nd := IntWalk.u64_in _ (by omega)
 have HPA : Hid (fputL f = UInt8.ofNat (tagN f) :: (whatL 8).flatMap (partC f)) := by
  show _ = _
  have := part_all hr (by rw [hk]; decide) (by rw [hk]; decide) (by rw [hk]; decide)
  rwa [hk] at this
 have HW4 : Hid ((whatL 8).length ≤ 4) := by
  obtain ⟨m, hm, _⟩ := right_parts hr
  rw [hk] at hm
  exact (what_known hm).2
 have HK := Lib.hid hk
 have HFL := Lib.hid hfl
 have HTZ : Hid ((tagN f : Int) = 10) := by show _ = _; unfold tagN; rw [if_pos hk, hfl, if_pos ha]; rfl
 have HAZ := Lib.hid ha
 have HA0 : Hid ((f.a : Int) = 0) := by show _ = _; rw [ha]; rfl
 rw [HA0.out] at c2
 rw [hk] at c0
 rw [hfl] at c5
 clear hk hfl ha hr
 have c6a := (HCX.out _ ((Mod.refl (fun _ => False) w2).alloc (.cells #[.int .u8 (10)] 5))).2.2.2.2.2.2.1
 go_wp2_with fail
 have HP2 := Lib.hid (PtS.made (n := tagN f) HF2.out HV.out HM2.out (z := 10) HTZ.out HTG.out)
 clear HF2 HTZ HCX c6a c0 c1 c2 c3 c4 c5 c6 c7
 refine (refput_any nd _).mono ?_
 rintro e w3 ⟨v3, rfl, ho3, hM3⟩
 have HM3 : Hid (Mod (fun _ => False) w2 w3) := ((Mod.refl _ _).alloc _).trans hM3
 have HP3 := Lib.hid (HP2.out.setz hM3 ho3)
 obtain ⟨az, cz, rfl, _⟩ := byts_val ho3.byts
 obtain ⟨c0, c1, c2, c3, c4, c5, c6, c7⟩ := HP3.out.a.cells
 obtain ⟨LZ, hLZ⟩ : ∃ x, x = putL nd := ⟨_, rfl⟩
 rw [← hLZ] at HP3 ⊢
 have HLZ := Lib.hid hLZ
 have HLZN : Hid ((LZ.length : Int) ≤ 8) := by show _ ≤ _; rw [hLZ]; have := putL_len nd; omega
 obtain ⟨nz, hnz⟩ : ∃ x, LZ.length = x := ⟨_, rfl⟩
 rw [hnz] at HP3 HLZN ⊢
 have HNZ := Lib.hid hnz
 clear hM3 ho3 HP2 hLZ hnz
 generalize w2.heap.size = gt at *
 rw [HK.out] at c0
 rw [HFL.out] at c5
 rw [HA0.out] at c2
 go_wp2_with fail
 refine (what_any _ 8).mono ?_
 rintro e w4 ⟨rfl, rfl⟩
 unfold strV
 obtain ⟨s1, hs1⟩ : ∃ s, s = ByteArray.mk (whatL 8).toArray := ⟨_, rfl⟩
 rw [← hs1]
 obtain ⟨S, hS⟩ : ∃ S, S = whatL 8 := ⟨_, rfl⟩
 obtain ⟨n, hn⟩ : ∃ n, S.length = n := ⟨_, rfl⟩
 have hsz : s1.size = n := by rw [hs1, ← hn, hS]; simp [ByteArray.size]
 have HIX : Hid (∀ (i : Nat) (c : UInt8) (X : World), S[i]? = some c → (Instr.index 9 (.string s1) (.int .i64 (i : Int))).run Tryz.prog X = .ok (.int .u8 (c.toNat : Int)) X) := by
  rw [hs1, ← hS]
  exact str_at S
 have hn4 : (n : Int) ≤ 4 := by have := HW4.out; rw [← hS, hn] at this; omega
 have HN := Lib.hid hn
 have HSW := Lib.hid hS
 clear hs1 hS hn HW4
 clear c0 c1 c2 c3 c4 c5 c6 c7
 go_wp2_with fail
 go_loopw [4, 9] (fun s4 s9 wr => ∃ (i q : Nat) (ap : Option Addr) (cp : Nat) (L : List UInt8), s9 = .int .i64 i ∧ s4 = .slice ap q cp ∧ i ≤ n ∧ (q : Int) ≤ 1 + 2000 * (i : Int) ∧ Hid (PtS w wr f (.slice da nd dc) (.slice ra nr rc) (.slice ap q cp) L (.slice az nz cz) LZ) ∧ Hid (L.length = q ∧ L = UInt8.ofNat (tagN f) :: (S.take i).flatMap (partC f))) (fun _ s9 _ => n - (intOf s9).toNat)
 case atStart => exact ⟨0, 1, _, _, _, rfl, rfl, Nat.zero_le _, by decide, HP3, ⟨rfl, by simp⟩⟩
 case round =>
  clear HP3
  obtain ⟨i, q, ap, cp, L, rfl, rfl, hi, hq, HP, HL⟩ := hrel
  by_cases hin : (i : Int) < n
  ·have hil : i < S.length := by have := HN.out; omega
   have hc : S[i]? = some S[i] := List.getElem?_eq_getElem hil
   generalize S[i] = c at hc
   have hix := fun X => HIX.out i c X hc
   have HC' := Lib.hid hc
   have HZ' : Hid (∀ n : Nat, n < 256 → (c.toNat : Int) = (n : Int) → c = UInt8.ofNat n) := fun n hn h => UInt8.toNat_inj.1 (by rw [UInt8.toNat_ofNat_of_lt' (by show _ < 256; omega)]; omega)
   have HST : Hid (∀ P, partC f c = P → UInt8.ofNat (tagN f) :: (S.take (i + 1)).flatMap (partC f) = L ++ P) := fun P h => by
    rw [take_snoc S i c HC'.out, List.flatMap_append, HL.out.2, ← h]
    simp
   have HSN : Hid (∀ n : Nat, n < 256 → (c.toNat : Int) ≠ (n : Int) → c ≠ UInt8.ofNat n) := fun n hn h e => h (by rw [e, UInt8.toNat_ofNat_of_lt' (by show _ < 256; omega)])
   clear hc hil
   generalize (c.toNat : Int) = z at *
   obtain ⟨c0, c1, c2, c3, c4, c5, c6, c7⟩ := HP.out.a.cells
   rw [HFL.out] at c5
   rw [HK.out] at c0
   rw [HA0.out] at c2
   by_cases h105 : z = 105
   ·have hce : c = 105 := HZ'.out 105 (by decide) h105
    have HSE := HST.out (putL f.id) (by unfold partC; rw [if_pos hce])
    have HSEH := Lib.hid HSE
    subst h105
    clear hce HST HSN HZ' HSE
    go_wp2_with fail
    refine (refput_any f.id _).mono ?_
    rintro e w5 ⟨v5, rfl, ho5, hM5⟩
    have HP5 := Lib.hid (HP.out.kept hM5)
    have HB5 := Lib.hid ho5.byts
    obtain ⟨a5, c5', rfl, _⟩ := byts_val ho5.byts
    obtain ⟨N, hN⟩ : ∃ x, x = putL f.id := ⟨_, rfl⟩
    rw [← hN] at HB5 HSEH ⊢
    obtain ⟨nn, hnn⟩ : ∃ x, N.length = x := ⟨_, rfl⟩
    rw [hnn] at HB5 ⊢
    have hn8 : (nn : Int) ≤ 8 := by rw [← hnn, hN]; have := putL_len f.id; omega
    have HSUM : Hid (L.length + N.length = q + nn) := by show _ = _; rw [HL.out.1, hnn]
    clear hM5 ho5 hN hnn HP c0 c1 c2 c3 c4 c5 c6 c7
    go_wp2_with (first
     | ((with_reducible refine wpList_append_bx ?_ (.tmp 53) (.tmp 56) ?_ (.slice ap q cp) L w.heap.size (q + nn) ?_ HP5.out.o (.slice a5 nn c5') N ?_ HB5.out (L ++ N) rfl HSUM.out ?_ HP5.out.m.size ?_); (· exact rfl); (· exact rfl); (· exact rfl); (· exact rfl); (· omega); intro ap6 cp6 w6 hA hat; have HP6 := Lib.hid (HP5.out.app hA hat); clear hA hat)
     | fail)
    go_roundw
    case rel => exact ⟨i + 1, q + nn, _, _, _, by go_num, rfl, by omega, by omega, HP6, ⟨by rw [List.length_append]; exact HSUM.out, HSEH.out.symm⟩⟩
    case measure => simp [intOf]; omega
   have HN105 : Hid (c ≠ 105) := HSN.out 105 (by decide) h105
   have b105 : (z == 105) = false := by simpa using h105
   clear h105
   by_cases h99 : z = 99
   ·have hce : c = 99 := HZ'.out 99 (by decide) h99
    have HSE := HST.out (putL f.c) (by unfold partC; rw [if_neg (show c ≠ 105 from HN105.out), if_pos hce])
    have HSEH := Lib.hid HSE
    subst h99
    clear hce HST HSN HZ' HSE
    go_wp2_with fail
    refine (refput_any f.c _).mono ?_
    rintro e w5 ⟨v5, rfl, ho5, hM5⟩
    have HP5 := Lib.hid (HP.out.kept hM5)
    have HB5 := Lib.hid ho5.byts
    obtain ⟨a5, c5', rfl, _⟩ := byts_val ho5.byts
    obtain ⟨N, hN⟩ : ∃ x, x = putL f.c := ⟨_, rfl⟩
    rw [← hN] at HB5 HSEH ⊢
    obtain ⟨nn, hnn⟩ : ∃ x, N.length = x := ⟨_, rfl⟩
    rw [hnn] at HB5 ⊢
    have hn8 : (nn : Int) ≤ 8 := by rw [← hnn, hN]; have := putL_len f.c; omega
    have HSUM : Hid (L.length + N.length = q + nn) := by show _ = _; rw [HL.out.1, hnn]
    clear hM5 ho5 hN hnn HP c0 c1 c2 c3 c4 c5 c6 c7
    go_wp2_with (first
     | ((with_reducible refine wpList_append_bx ?_ (.tmp 60) (.tmp 63) ?_ (.slice ap q cp) L w.heap.size (q + nn) ?_ HP5.out.o (.slice a5 nn c5') N ?_ HB5.out (L ++ N) rfl HSUM.out ?_ HP5.out.m.size ?_); (· exact rfl); (· exact rfl); (· exact rfl); (· exact rfl); (· omega); intro ap6 cp6 w6 hA hat; have HP6 := Lib.hid (HP5.out.app hA hat); clear hA hat)
     | fail)
    go_roundw
    case rel => exact ⟨i + 1, q + nn, _, _, _, by go_num, rfl, by omega, by omega, HP6, ⟨by rw [List.length_append]; exact HSUM.out, HSEH.out.symm⟩⟩
    case measure => simp [intOf]; omega
   have HN99 : Hid (c ≠ 99) := HSN.out 99 (by decide) h99
   have b99 : (z == 99) = false := by simpa using h99
   clear h99
   by_cases h97 : z = 97
   ·have hce : c = 97 := HZ'.out 97 (by decide) h97
    subst h97
    have HSEH := Lib.hid (HST.out [] (by unfold partC; rw [if_neg (show c ≠ 105 from HN105.out), if_neg (show c ≠ 99 from HN99.out), if_pos hce, if_pos (.inl ⟨HK.out, HAZ.out⟩)]))
    clear hce HST HSN HZ'
    go_wp2_with fail
    go_roundw
    case rel => exact ⟨i + 1, q, _, _, _, by go_num, rfl, by omega, by omega, HP, ⟨HL.out.1, by have := HSEH.out; rw [List.append_nil] at this; exact this.symm⟩⟩
    case measure => simp [intOf]; omega
   have HN97 : Hid (c ≠ 97) := HSN.out 97 (by decide) h97
   have b97 : (z == 97) = false := by simpa using h97
   clear h97
   by_cases h100 : z = 100
   ·have hce : c = 100 := HZ'.out 100 (by decide) h100
    subst h100
    have HSEH := Lib.hid (HST.out (LZ ++ f.d) (by unfold partC; rw [if_neg (show c ≠ 105 from HN105.out), if_neg (show c ≠ 99 from HN99.out), if_neg (show c ≠ 97 from HN97.out), if_pos hce, if_pos (by rw [HK.out]; decide), HND.out, HLZ.out]))
    clear hce HST HSN HZ'
    have HSUM1 : Hid (L.length + LZ.length = q + nz) := by show _ = _; rw [HL.out.1, HNZ.out]
    have HSUM2 : Hid ((L ++ LZ).length + f.d.length = q + nz + nd) := by show _ = _; rw [List.length_append, HL.out.1, HNZ.out, HND.out]
    have hz8 := HLZN.out
    go_wp2_with (first
     | ((with_reducible refine wpList_append_bx ?_ (.tmp 99) (.tmp 100) ?_ (.slice ap q cp) L w.heap.size (q + nz) ?_ HP.out.o (.slice az nz cz) LZ ?_ HP.out.z (L ++ LZ) rfl HSUM1.out ?_ HP.out.m.size ?_); (· exact rfl); (· exact rfl); (· exact rfl); (· exact rfl); (· omega); intro ap6 cp6 w6 hA hat; have HP6 := Lib.hid (HP.out.app hA hat); obtain ⟨e0, e1, e2, e3, e4, e5, e6, e7⟩ := HP6.out.a.cells; have HD6 : Hid (Byts w6 (.slice da nd dc) f.d) := byts_kept HP6.out.fv.d HP6.out.m; clear hA hat)
     | ((with_reducible refine wpList_append_bx ?_ (.tmp 102) (.tmp 104) ?_ (.slice ap6 (q + nz) cp6) (L ++ LZ) w.heap.size (q + nz + nd) ?_ HP6.out.o (.slice da nd dc) f.d ?_ HD6.out ((L ++ LZ) ++ f.d) rfl HSUM2.out ?_ HP6.out.m.size ?_); (· exact rfl); (· exact rfl); (· exact rfl); (· exact rfl); (· omega); intro ap7 cp7 w7 hA hat; have HP7 := Lib.hid (HP6.out.app hA hat); clear hA hat)
     | fail)
    go_roundw
    case rel => exact ⟨i + 1, q + nz + nd, _, _, _, by go_num, rfl, by omega, by omega, HP7, ⟨by rw [List.length_append]; exact HSUM2.out, by rw [List.append_assoc]; exact HSEH.out.symm⟩⟩
    case measure => simp [intOf]; omega
   have HN100 : Hid (c ≠ 100) := HSN.out 100 (by decide) h100
   have b100 : (z == 100) = false := by simpa using h100
   clear h100
   have HSEH := Lib.hid (HST.out [] (by unfold partC; rw [if_neg (show c ≠ 105 from HN105.out), if_neg (show c ≠ 99 from HN99.out), if_neg (show c ≠ 97 from HN97.out), if_neg (show c ≠ 100 from HN100.out)]))
   clear HST HSN HZ'
   go_wp2_with fail
   go_roundw
   case rel => exact ⟨i + 1, q, _, _, _, by go_num, rfl, by omega, by omega, HP, ⟨HL.out.1, by have := HSEH.out; rw [List.append_nil] at this; exact this.symm⟩⟩
   case measure => simp [intOf]; omega
  ·have hin' : i = n := by omega
   have HRE : Hid (R = L) := by
    show _ = _
    rw [HRR.out, HPA.out, HL.out.2, List.take_of_length_le (by have := HN.out; omega), HSW.out]
   go_wp2_with fail
   go_ret
   rw [HRE.out]
   exact ⟨_, rfl, HP.out.o, HP.out.m⟩
set_option maxHeartbeats 16000000 in
set_option maxRecDepth 10000 in
theorem refput_e01 {w : World} {f : Fr} {vd vr : Value} (hv : FrV w f vd vr) (hrl : (f.rs.length : Int) ≤ 100000) (hro : RngOk f) (hr : rightF f = true) (hk : f.k = 8) (hfl : f.fl = false) (ha : f.a ≠ 0) :
  Calls Tryz.prog 16 #[frV f vd vr] w fun e w' => ∃ v, e = .returned v ∧ OwnB w' w.heap.size v (fputL f) ∧ Mod (fun _ => False) w w' := by
 obtain ⟨R, hR⟩ : ∃ R, R = fputL f := ⟨_, rfl⟩
 rw [← hR]
 have HRR := Lib.hid hR
 have HV := Lib.hid hv
 have HF0 := Lib.hid (FrB.new w f vd vr hv.t)
 have HM0 : Hid (Mod (fun _ => False) w (w.alloc (.cells (frC f vd vr) 52))) := (Mod.refl _ _).alloc _
 obtain ⟨da, dc, rfl, _⟩ := byts_val hv.d
 obtain ⟨ra, rc, rfl, hrc, _⟩ := rg_val hv.r
 have HRT := Lib.hid (fun (X : World) (C : Array Value) (hC : C = frC f (.slice da f.d.length dc) (.slice ra f.rs.length rc)) (h : Mod (fun _ => False) w X) => refright_c hC (hv.kept h) hrl hro)
 have hdl := hv.dl
 obtain ⟨nd, hnd⟩ : ∃ n, f.d.length = n := ⟨_, rfl⟩
 obtain ⟨nr, hnr⟩ : ∃ n, f.rs.length = n := ⟨_, rfl⟩
 have HND := Lib.hid hnd
 have HNR := Lib.hid hnr
 rw [hnd, hnr] at HV HF0 HM0 HRT ⊢
 rw [hnd] at hdl
 rw [hnr] at hrl hrc
 have hrc2 : (nr : Int) ≤ rc := by omega
 obtain ⟨C, hC⟩ : ∃ C, C = frC f (.slice da nd dc) (.slice ra nr rc) := ⟨_, rfl⟩
 have HC := Lib.hid hC
 unfold frV
 rw [← hC] at HM0 ⊢
 have HF1 : Hid (FrB (w.alloc (.cells C 52)) w.heap.size f (.slice da nd dc) (.slice ra nr rc)) := by show FrB _ _ _ _ _; rw [hC]; exact HF0.out
 have HLD : Hid ((Instr.loadAt 52 (.pointer (some ⟨w.heap.size, 0, none⟩))).run Tryz.prog (w.alloc (.cells C 52)) = .ok (.agg C) (w.alloc (.cells C 52))) := by
  have h := blk_loadAt HF1.out
  unfold frV at h
  rwa [← HC.out] at h
 clear HF0 hR hv hro hnd hnr hC hrc
 go_enter Tryz.func16, Tryz.ntmps16
 go_wp2_with (first | ((with_reducible refine wpList_load_v 52 (.tmp 1) ?_ ?_ (.pointer (some ⟨w.heap.size, 0, none⟩)) (.agg C) ?_ HLD.out ?_); (· exact rfl); (· exact rfl); (· exact rfl)) | fail)
 refine (HRT.out _ C HC.out HM0.out).mono ?_
 rintro e w2 ⟨rfl, hM2⟩
 have HM2 := Lib.hid (HM0.out.trans hM2)
 have HF2 := Lib.hid (HF1.out.kept hM2)
 clear hM2 HM0 HF1 HRT
 have HRF := Lib.hid hr
 rw [hr]
 have hnd2 : (nd : Int) ≤ 1200 := by have := (right_len hr).1; have := HND.out; omega
 obtain ⟨c0, c1, c2, c3, c4, c5, c6, c7⟩ := HF2.out.cells
 have HCX := Lib.hid (fun (X : World) (h : Mod (fun _ => False) w2 X) => (HF2.out.kept h).cells)
 have HTG : Hid (tagN f ≤ 255) := tag_le hr
 have hw0 : IntKind.u64.wrap (nd : Int) = nd := IntWalk.u64_in _ (by omega)
 have HPA : Hid (fputL f = UInt8.ofNat (tagN f) :: (whatL 8).flatMap (partC f)) := by
  show _ = _
  have := part_all hr (by rw [hk]; decide) (by rw [hk]; decide) (by rw [hk]; decide)
  rwa [hk] at this
 have HW4 : Hid ((whatL 8).length ≤ 4) := by
  obtain ⟨m, hm, _⟩ := right_parts hr
  rw [hk] at hm
  exact (what_known hm).2
 have HK := Lib.hid hk
 have HFL := Lib.hid hfl
 have HTZ : Hid ((tagN f : Int) = 14) := by show _ = _; unfold tagN; rw [if_pos hk, hfl, if_neg ha]; rfl
 have HAZ : Hid (¬ f.a = 0) := ha
 have HAB : Hid (((f.a : Int) == 0) = false) := by show _ = _; simpa using ha
 have hda : decide ((0 : Int) < (f.a : Int)) = true := decide_eq_true (by omega)
 have hdb : decide (0 < f.a) = true := decide_eq_true (by omega)
 rw [hk] at c0
 rw [hfl] at c5
 clear hk hfl ha hr
 have c6a := (HCX.out _ ((Mod.refl (fun _ => False) w2).alloc (.cells #[.int .u8 (14)] 5))).2.2.2.2.2.2.1
 go_wp2_with fail
 have HP2 := Lib.hid (PtS.made (n := tagN f) HF2.out HV.out HM2.out (z := 14) HTZ.out HTG.out)
 clear HF2 HTZ HCX c6a c0 c1 c2 c3 c4 c5 c6 c7
 refine (refput_any nd _).mono ?_
 rintro e w3 ⟨v3, rfl, ho3, hM3⟩
 have HM3 : Hid (Mod (fun _ => False) w2 w3) := ((Mod.refl _ _).alloc _).trans hM3
 have HP3 := Lib.hid (HP2.out.setz hM3 ho3)
 obtain ⟨az, cz, rfl, _⟩ := byts_val ho3.byts
 obtain ⟨c0, c1, c2, c3, c4, c5, c6, c7⟩ := HP3.out.a.cells
 obtain ⟨LZ, hLZ⟩ : ∃ x, x = putL nd := ⟨_, rfl⟩
 rw [← hLZ] at HP3 ⊢
 have HLZ := Lib.hid hLZ
 have HLZN : Hid ((LZ.length : Int) ≤ 8) := by show _ ≤ _; rw [hLZ]; have := putL_len nd; omega
 obtain ⟨nz, hnz⟩ : ∃ x, LZ.length = x := ⟨_, rfl⟩
 rw [hnz] at HP3 HLZN ⊢
 have HNZ := Lib.hid hnz
 clear hM3 ho3 HP2 hLZ hnz
 generalize w2.heap.size = gt at *
 rw [HK.out] at c0
 rw [HFL.out] at c5
 go_wp2_with fail
 refine (what_any _ 8).mono ?_
 rintro e w4 ⟨rfl, rfl⟩
 unfold strV
 obtain ⟨s1, hs1⟩ : ∃ s, s = ByteArray.mk (whatL 8).toArray := ⟨_, rfl⟩
 rw [← hs1]
 obtain ⟨S, hS⟩ : ∃ S, S = whatL 8 := ⟨_, rfl⟩
 obtain ⟨n, hn⟩ : ∃ n, S.length = n := ⟨_, rfl⟩
 have hsz : s1.size = n := by rw [hs1, ← hn, hS]; simp [ByteArray.size]
 have HIX : Hid (∀ (i : Nat) (c : UInt8) (X : World), S[i]? = some c → (Instr.index 9 (.string s1) (.int .i64 (i : Int))).run Tryz.prog X = .ok (.int .u8 (c.toNat : Int)) X) := by
  rw [hs1, ← hS]
  exact str_at S
 have hn4 : (n : Int) ≤ 4 := by have := HW4.out; rw [← hS, hn] at this; omega
 have HN := Lib.hid hn
 have HSW := Lib.hid hS
 clear hs1 hS hn HW4
 clear c0 c1 c2 c3 c4 c5 c6 c7
 go_wp2_with fail
 go_loopw [4, 9] (fun s4 s9 wr => ∃ (i q : Nat) (ap : Option Addr) (cp : Nat) (L : List UInt8), s9 = .int .i64 i ∧ s4 = .slice ap q cp ∧ i ≤ n ∧ (q : Int) ≤ 1 + 2000 * (i : Int) ∧ Hid (PtS w wr f (.slice da nd dc) (.slice ra nr rc) (.slice ap q cp) L (.slice az nz cz) LZ) ∧ Hid (L.length = q ∧ L = UInt8.ofNat (tagN f) :: (S.take i).flatMap (partC f))) (fun _ s9 _ => n - (intOf s9).toNat)
 case atStart => exact ⟨0, 1, _, _, _, rfl, rfl, Nat.zero_le _, by decide, HP3, ⟨rfl, by simp⟩⟩
 case round =>
  clear HP3
  obtain ⟨i, q, ap, cp, L, rfl, rfl, hi, hq, HP, HL⟩ := hrel
  by_cases hin : (i : Int) < n
  ·have hil : i < S.length := by have := HN.out; omega
   have hc : S[i]? = some S[i] := List.getElem?_eq_getElem hil
   generalize S[i] = c at hc
   have hix := fun X => HIX.out i c X hc
   have HC' := Lib.hid hc
   have HZ' : Hid (∀ n : Nat, n < 256 → (c.toNat : Int) = (n : Int) → c = UInt8.ofNat n) := fun n hn h => UInt8.toNat_inj.1 (by rw [UInt8.toNat_ofNat_of_lt' (by show _ < 256; omega)]; omega)
   have HST : Hid (∀ P, partC f c = P → UInt8.ofNat (tagN f) :: (S.take (i + 1)).flatMap (partC f) = L ++ P) := fun P h => by
    rw [take_snoc S i c HC'.out, List.flatMap_append, HL.out.2, ← h]
    simp
   have HSN : Hid (∀ n : Nat, n < 256 → (c.toNat : Int) ≠ (n : Int) → c ≠ UInt8.ofNat n) := fun n hn h e => h (by rw [e, UInt8.toNat_ofNat_of_lt' (by show _ < 256; omega)])
   clear hc hil
   generalize (c.toNat : Int) = z at *
   obtain ⟨c0, c1, c2, c3, c4, c5, c6, c7⟩ := HP.out.a.cells
   rw [HFL.out] at c5
   rw [HK.out] at c0
   by_cases h105 : z = 105
   ·have hce : c = 105 := HZ'.out 105 (by decide) h105
    have HSE := HST.out (putL f.id) (by unfold partC; rw [if_pos hce])
    have HSEH := Lib.hid HSE
    subst h105
    clear hce HST HSN HZ' HSE
    go_wp2_with fail
    refine (refput_any f.id _).mono ?_
    rintro e w5 ⟨v5, rfl, ho5, hM5⟩
    have HP5 := Lib.hid (HP.out.kept hM5)
    have HB5 := Lib.hid ho5.byts
    obtain ⟨a5, c5', rfl, _⟩ := byts_val ho5.byts
    obtain ⟨N, hN⟩ : ∃ x, x = putL f.id := ⟨_, rfl⟩
    rw [← hN] at HB5 HSEH ⊢
    obtain ⟨nn, hnn⟩ : ∃ x, N.length = x := ⟨_, rfl⟩
    rw [hnn] at HB5 ⊢
    have hn8 : (nn : Int) ≤ 8 := by rw [← hnn, hN]; have := putL_len f.id; omega
    have HSUM : Hid (L.length + N.length = q + nn) := by show _ = _; rw [HL.out.1, hnn]
    clear hM5 ho5 hN hnn HP c0 c1 c2 c3 c4 c5 c6 c7
    go_wp2_with (first
     | ((with_reducible refine wpList_append_bx ?_ (.tmp 53) (.tmp 56) ?_ (.slice ap q cp) L w.heap.size (q + nn) ?_ HP5.out.o (.slice a5 nn c5') N ?_ HB5.out (L ++ N) rfl HSUM.out ?_ HP5.out.m.size ?_); (· exact rfl); (· exact rfl); (· exact rfl); (· exact rfl); (· omega); intro ap6 cp6 w6 hA hat; have HP6 := Lib.hid (HP5.out.app hA hat); clear hA hat)
     | fail)
    go_roundw
    case rel => exact ⟨i + 1, q + nn, _, _, _, by go_num, rfl, by omega, by omega, HP6, ⟨by rw [List.length_append]; exact HSUM.out, HSEH.out.symm⟩⟩
    case measure => simp [intOf]; omega
   have HN105 : Hid (c ≠ 105) := HSN.out 105 (by decide) h105
   have b105 : (z == 105) = false := by simpa using h105
   clear h105
   by_cases h99 : z = 99
   ·have hce : c = 99 := HZ'.out 99 (by decide) h99
    have HSE := HST.out (putL f.c) (by unfold partC; rw [if_neg (show c ≠ 105 from HN105.out), if_pos hce])
    have HSEH := Lib.hid HSE
    subst h99
    clear hce HST HSN HZ' HSE
    go_wp2_with fail
    refine (refput_any f.c _).mono ?_
    rintro e w5 ⟨v5, rfl, ho5, hM5⟩
    have HP5 := Lib.hid (HP.out.kept hM5)
    have HB5 := Lib.hid ho5.byts
    obtain ⟨a5, c5', rfl, _⟩ := byts_val ho5.byts
    obtain ⟨N, hN⟩ : ∃ x, x = putL f.c := ⟨_, rfl⟩
    rw [← hN] at HB5 HSEH ⊢
    obtain ⟨nn, hnn⟩ : ∃ x, N.length = x := ⟨_, rfl⟩
    rw [hnn] at HB5 ⊢
    have hn8 : (nn : Int) ≤ 8 := by rw [← hnn, hN]; have := putL_len f.c; omega
    have HSUM : Hid (L.length + N.length = q + nn) := by show _ = _; rw [HL.out.1, hnn]
    clear hM5 ho5 hN hnn HP c0 c1 c2 c3 c4 c5 c6 c7
    go_wp2_with (first
     | ((with_reducible refine wpList_append_bx ?_ (.tmp 60) (.tmp 63) ?_ (.slice ap q cp) L w.heap.size (q + nn) ?_ HP5.out.o (.slice a5 nn c5') N ?_ HB5.out (L ++ N) rfl HSUM.out ?_ HP5.out.m.size ?_); (· exact rfl); (· exact rfl); (· exact rfl); (· exact rfl); (· omega); intro ap6 cp6 w6 hA hat; have HP6 := Lib.hid (HP5.out.app hA hat); clear hA hat)
     | fail)
    go_roundw
    case rel => exact ⟨i + 1, q + nn, _, _, _, by go_num, rfl, by omega, by omega, HP6, ⟨by rw [List.length_append]; exact HSUM.out, HSEH.out.symm⟩⟩
    case measure => simp [intOf]; omega
   have HN99 : Hid (c ≠ 99) := HSN.out 99 (by decide) h99
   have b99 : (z == 99) = false := by simpa using h99
   clear h99
   by_cases h97 : z = 97
   ·have hce : c = 97 := HZ'.out 97 (by decide) h97
    subst h97
    have hab : ((f.a : Int) == 0) = false := HAB.out
    have HSEH := Lib.hid (HST.out (putL f.a) (by unfold partC; rw [if_neg (show c ≠ 105 from HN105.out), if_neg (show c ≠ 99 from HN99.out), if_pos hce, if_neg (fun e => e.elim (fun h => HAZ.out h.2) (fun h => by have h := h.1; rw [HK.out] at h; cases h))]))
    clear hce HST HSN HZ'
    go_wp2_with fail
    refine (refput_any f.a _).mono ?_
    rintro e w5 ⟨v5, rfl, ho5, hM5⟩
    have HP5 := Lib.hid (HP.out.kept hM5)
    have HB5 := Lib.hid ho5.byts
    obtain ⟨a5, c5', rfl, _⟩ := byts_val ho5.byts
    obtain ⟨N, hN⟩ : ∃ x, x = putL f.a := ⟨_, rfl⟩
    rw [← hN] at HB5 HSEH ⊢
    obtain ⟨nn, hnn⟩ : ∃ x, N.length = x := ⟨_, rfl⟩
    rw [hnn] at HB5 ⊢
    have hn8 : (nn : Int) ≤ 8 := by rw [← hnn, hN]; have := putL_len f.a; omega
    have HSUM : Hid (L.length + N.length = q + nn) := by show _ = _; rw [HL.out.1, hnn]
    clear hM5 ho5 hN hnn HP c0 c1 c2 c3 c4 c5 c6 c7
    go_wp2_with (first
     | ((with_reducible refine wpList_append_bx ?_ (.tmp 84) (.tmp 87) ?_ (.slice ap q cp) L w.heap.size (q + nn) ?_ HP5.out.o (.slice a5 nn c5') N ?_ HB5.out (L ++ N) rfl HSUM.out ?_ HP5.out.m.size ?_); (· exact rfl); (· exact rfl); (· exact rfl); (· exact rfl); (· omega); intro ap6 cp6 w6 hA hat; have HP6 := Lib.hid (HP5.out.app hA hat); clear hA hat)
     | fail)
    go_roundw
    case rel => exact ⟨i + 1, q + nn, _, _, _, by go_num, rfl, by omega, by omega, HP6, ⟨by rw [List.length_append]; exact HSUM.out, HSEH.out.symm⟩⟩
    case measure => simp [intOf]; omega
   have HN97 : Hid (c ≠ 97) := HSN.out 97 (by decide) h97
   have b97 : (z == 97) = false := by simpa using h97
   clear h97
   by_cases h100 : z = 100
   ·have hce : c = 100 := HZ'.out 100 (by decide) h100
    subst h100
    have HSEH := Lib.hid (HST.out (LZ ++ f.d) (by unfold partC; rw [if_neg (show c ≠ 105 from HN105.out), if_neg (show c ≠ 99 from HN99.out), if_neg (show c ≠ 97 from HN97.out), if_pos hce, if_pos (by rw [HK.out]; decide), HND.out, HLZ.out]))
    clear hce HST HSN HZ'
    have HSUM1 : Hid (L.length + LZ.length = q + nz) := by show _ = _; rw [HL.out.1, HNZ.out]
    have HSUM2 : Hid ((L ++ LZ).length + f.d.length = q + nz + nd) := by show _ = _; rw [List.length_append, HL.out.1, HNZ.out, HND.out]
    have hz8 := HLZN.out
    go_wp2_with (first
     | ((with_reducible refine wpList_append_bx ?_ (.tmp 99) (.tmp 100) ?_ (.slice ap q cp) L w.heap.size (q + nz) ?_ HP.out.o (.slice az nz cz) LZ ?_ HP.out.z (L ++ LZ) rfl HSUM1.out ?_ HP.out.m.size ?_); (· exact rfl); (· exact rfl); (· exact rfl); (· exact rfl); (· omega); intro ap6 cp6 w6 hA hat; have HP6 := Lib.hid (HP.out.app hA hat); obtain ⟨e0, e1, e2, e3, e4, e5, e6, e7⟩ := HP6.out.a.cells; have HD6 : Hid (Byts w6 (.slice da nd dc) f.d) := byts_kept HP6.out.fv.d HP6.out.m; clear hA hat)
     | ((with_reducible refine wpList_append_bx ?_ (.tmp 102) (.tmp 104) ?_ (.slice ap6 (q + nz) cp6) (L ++ LZ) w.heap.size (q + nz + nd) ?_ HP6.out.o (.slice da nd dc) f.d ?_ HD6.out ((L ++ LZ) ++ f.d) rfl HSUM2.out ?_ HP6.out.m.size ?_); (· exact rfl); (· exact rfl); (· exact rfl); (· exact rfl); (· omega); intro ap7 cp7 w7 hA hat; have HP7 := Lib.hid (HP6.out.app hA hat); clear hA hat)
     | fail)
    go_roundw
    case rel => exact ⟨i + 1, q + nz + nd, _, _, _, by go_num, rfl, by omega, by omega, HP7, ⟨by rw [List.length_append]; exact HSUM2.out, by rw [List.append_assoc]; exact HSEH.out.symm⟩⟩
    case measure => simp [intOf]; omega
   have HN100 : Hid (c ≠ 100) := HSN.out 100 (by decide) h100
   have b100 : (z == 100) = false := by simpa using h100
   clear h100
   have HSEH := Lib.hid (HST.out [] (by unfold partC; rw [if_neg (show c ≠ 105 from HN105.out), if_neg (show c ≠ 99 from HN99.out), if_neg (show c ≠ 97 from HN97.out), if_neg (show c ≠ 100 from HN100.out)]))
   clear HST HSN HZ'
   go_wp2_with fail
   go_roundw
   case rel => exact ⟨i + 1, q, _, _, _, by go_num, rfl, by omega, by omega, HP, ⟨HL.out.1, by have := HSEH.out; rw [List.append_nil] at this; exact this.symm⟩⟩
   case measure => simp [intOf]; omega
  ·have hin' : i = n := by omega
   have HRE : Hid (R = L) := by
    show _ = _
    rw [HRR.out, HPA.out, HL.out.2, List.take_of_length_le (by have := HN.out; omega), HSW.out]
   go_wp2_with fail
   go_ret
   rw [HRE.out]
   exact ⟨_, rfl, HP.out.o, HP.out.m⟩
end Go.Proofs.YtolgeghdkoodnaaGreatDoor
set_option maxRecDepth 100000
namespace Go.Proofs.YtolgeghdkoodnaaGreatDoor
open Go.Joins Go.ChangeShapes Go.WideShapes Go.RowKit Go.Deep
theorem list_of {α : Type} : ∀ (n : Nat) (Q : Nat → α → Prop), (∀ i, i < n → ∃ x, Q i x) → ∃ l : List α, l.length = n ∧ ∀ i x, l[i]? = some x → Q i x
 | 0, _, _ => ⟨[], rfl, fun i x h => by simp at h⟩
 | n + 1, Q, h => by
  obtain ⟨l, hl, hq⟩ := list_of n Q (fun i hi => h i (by omega))
  obtain ⟨x, hx⟩ := h n (by omega)
  refine ⟨l ++ [x], by simp [hl], fun i y hy => ?_⟩
  by_cases hi : i < l.length
  ·rw [List.getElem?_append_left hi] at hy
   exact hq i y hy
  ·rw [List.getElem?_append_right (by omega)] at hy
   have h0 : i - l.length = 0 := by
    have := (List.getElem?_eq_some_iff.1 hy).1
    simp at this
    omega
   rw [h0] at hy
   simp at hy
   subst hy
   rw [show i = n by omega]
   exact hx
theorem flat_len {α : Type} {f : α → List Value} {sz : Nat} (hf : ∀ x, (f x).length = sz) : ∀ l : List α, (l.flatMap f).length = l.length * sz
 | [] => by simp
 | x :: l => by rw [List.flatMap_cons, List.length_append, hf, flat_len hf l, List.length_cons, Nat.succ_mul]; omega
theorem flat_inv {α : Type} {f : α → List Value} {sz : Nat} (hf : ∀ x, (f x).length = sz) : ∀ (l : List α) (j : Nat) (u : Value), (l.flatMap f)[j]? = some u → ∃ i x k, l[i]? = some x ∧ (f x)[k]? = some u ∧ j = i * sz + k
 | [], j, u, h => by simp at h
 | x :: l, j, u, h => by
  rw [List.flatMap_cons] at h
  by_cases hj : j < (f x).length
  ·rw [List.getElem?_append_left hj] at h
   exact ⟨0, x, j, rfl, h, by omega⟩
  ·rw [List.getElem?_append_right (by omega)] at h
   obtain ⟨i, y, k, h1, h2, h3⟩ := flat_inv hf l _ u h
   refine ⟨i + 1, y, k, by simpa using h1, h2, ?_⟩
   have := hf x
   rw [Nat.succ_mul]
   omega
theorem add_plain {a : Addr} (h : a.spot = none) (j : Nat) : a.add j = ⟨a.block, a.off + j, none⟩ := by
 unfold Addr.add
 obtain ⟨ab, ao, sp⟩ := a
 simp only at h
 subst h
 split
 ·rename_i h0; subst h0; rfl
 ·rfl
theorem add_add' (a : Addr) (h : a.spot = none) (i j : Nat) : (a.add i).add j = ⟨a.block, a.off + i + j, none⟩ := by
 rw [add_plain h, add_plain rfl]
theorem sl_rows {α : Type} {W : World} {a : Addr} {len cap sz : Nat} (f : α → List Value) (hf : ∀ x, (f x).length = sz) (hz : 0 < sz) (l : List α) (hl : l.length = len) (hc : len ≤ cap) (hm : cap ≤ maxLen)
  (h : ∀ i x, l[i]? = some x → ∀ j u, (f x)[j]? = some u → W.cell? ((a.add (i * sz)).add j) = some u) : Sl W sz (.slice (some a) len cap) len (l.flatMap f) := by
 refine ⟨by rw [flat_len hf, hl], some a, cap, rfl, hc, hm, fun h => by simp at h, fun j u hu => ?_⟩
 obtain ⟨i, x, k, h1, h2, rfl⟩ := flat_inv hf l j u hu
 have h0 : 0 < l.length := by have := (List.getElem?_eq_some_iff.1 h1).1; omega
 have hsp : a.spot = none := by
  obtain ⟨y, hy⟩ : ∃ y, l[0]? = some y := ⟨_, List.getElem?_eq_getElem h0⟩
  obtain ⟨u0, hu0⟩ : ∃ u, (f y)[0]? = some u := ⟨_, List.getElem?_eq_getElem (by rw [hf]; exact hz)⟩
  have := h 0 y hy 0 u0 hu0
  rw [Nat.zero_mul] at this
  cases hs : a.spot with
  | none => rfl
  | some q =>
   exfalso
   have e : (a.add 0).add 0 = a := by simp [Addr.add]
   rw [e] at this
   unfold World.cell? at this
   rw [hs] at this
   split at this <;> simp at this
 have := h i x h1 k u h2
 rw [add_add' a hsp] at this
 exact ⟨a.block, a.off, by obtain ⟨ab, ao, sp⟩ := a; simp only at hsp; subst hsp; rfl, by rw [← Nat.add_assoc]; exact this⟩
theorem open_rows {H : Type} {enc : TypeId × Value → H} {W : World} {α : Type} {T E : TypeId} {sz : Nat} (f : α → List Value) (hf : ∀ x, (f x).length = sz) (hz : 0 < sz) (ok : α → Prop) (hT : Tryz.prog.underlying T = some (.slice E)) (hE : Program.cellsOf Tryz.prog E = sz)
  (hel : ∀ (fuel : Nat) (cs : List Value) (y : DataW H × List MemPlace), cs.length = sz → DataW.trod enc Tryz.prog W 0 (fun _ => true) true fuel E cs = some y → ∃ x, cs = f x ∧ ok x)
  {v : Value} {d : DataW H} {p : List MemPlace} {base : Nat} (hval : Value.okWide Tryz.prog W .any base T v) (h : DataW.Trod enc Tryz.prog W 0 (fun _ => true) true T v d p) :
  ∃ l : List α, Sl W sz v l.length (l.flatMap f) ∧ ∀ x ∈ l, ok x := by
 obtain ⟨a0, len, cap, rfl⟩ := okWide_slice hT hval
 obtain ⟨fuel, hfu⟩ := h
 rcases open_slice hT hfu with ⟨hcs, _⟩ | ⟨a, len', cap', m, n, D, Pl, hcs, _, hl, hm, hmm, _, hx⟩
 ·simp [Value.cells] at hcs
  obtain ⟨rfl, rfl, rfl⟩ := hcs
  exact ⟨[], Sl.nil _ _, by simp⟩
 ·simp [Value.cells] at hcs
  obtain ⟨rfl, rfl, rfl⟩ := hcs
  have hmm' : m = cap := by simpa using hmm
  have each : ∀ i, i < len → ∃ x : α, (∀ j u, (f x)[j]? = some u → W.cell? ((a.add (i * sz)).add j) = some u) ∧ ok x := by
   intro i hi
   obtain ⟨cs', h1, h2⟩ := hx i (by omega)
   rw [hE] at h1
   obtain ⟨_, hlen, hcell⟩ := World.cells?_some h1
   obtain ⟨x, rfl, hin⟩ := hel _ _ _ hlen h2
   refine ⟨x, fun j u hu => ?_, hin⟩
   have hj := (List.getElem?_eq_some_iff.1 hu).1
   have hj' := hf x
   have := hcell j (by omega)
   rw [this]
   exact hu
  obtain ⟨l, hll, hq⟩ := list_of len _ each
  refine ⟨l, ?_, fun x hx => ?_⟩
  ·rw [hll]
   exact sl_rows f hf hz l hll hl hm (fun i x hi => (hq i x hi).1)
  ·obtain ⟨i, hi⟩ := List.getElem?_of_mem hx
   exact (hq i x hi).2
end Go.Proofs.YtolgeghdkoodnaaGreatDoor
set_option maxRecDepth 100000
namespace Go.Proofs.YtolgeghdkoodnaaGreatDoor
open Go.Joins Go.ChangeShapes Go.WideShapes Go.RowKit Go.Deep
theorem spot_none {W : World} {a : Addr} {v : Value} (h : W.cell? (a.add 0) = some v) : a.spot = none := by
 unfold Addr.add at h
 simp only [if_true] at h
 cases hs : a.spot with
 | none => rfl
 | some x =>
  exfalso
  unfold World.cell? at h
  rw [hs] at h
  split at h <;> simp at h
section
variable {H : Type} {enc : TypeId × Value → H} {W : World}
theorem cells_byts {fuel : Nat} {v : Value} {y : DataW H × List MemPlace} (h : DataW.trod enc Tryz.prog W 0 (fun _ => true) true fuel 42 [v] = some y) : ∃ l : List UInt8, Byts W v l := by
 rcases open_ints Tryz.underlying42 Tryz.underlying5 (by kernel_rfl) h with ⟨hcs, hx⟩ | ⟨a, len, cap, zs, hcs, _, hl, hm, hz, hx, hcell, hwz⟩
 ·simp at hcs
  subst hcs
  exact ⟨[], Sl.nil _ _⟩
 ·simp at hcs
  subst hcs
  simp at hz
  have hwf : ∀ z ∈ zs, 0 ≤ z ∧ z ≤ 255 := fun z hz => bounds_u8 (hwz z hz)
  have each : ∀ i, i < len → ∃ x : UInt8, W.cell? (a.add i) = some (bv x) := by
   intro i hi
   have hiz : i < zs.length := by omega
   refine ⟨UInt8.ofNat zs[i].toNat, ?_⟩
   rw [hcell i (by omega), bv_of (hwf _ (List.getElem_mem hiz))]
   simp [List.getD, hiz]
  obtain ⟨l, hll, hq⟩ := list_of len _ each
  refine ⟨l, by simp, some a, cap, by rw [hll], by omega, hm, fun h => by simp at h, fun j u hu => ?_⟩
  obtain ⟨x, hx, rfl⟩ := by simpa [List.getElem?_map] using hu
  have h0 : 0 < l.length := by have := (List.getElem?_eq_some_iff.1 hx).1; omega
  have hsp := spot_none (hq 0 l[0] (List.getElem?_eq_getElem h0))
  have e1 := hq j x hx
  rw [add_plain hsp] at e1
  exact ⟨a.block, a.off, by obtain ⟨ab, ao, sp⟩ := a; simp only at hsp; subst hsp; rfl, e1⟩
end
structure StepV where
 k : Int
 w : Int
 p : Int
 n : Int
 v : Value
 lost : Int
 d : List UInt8
def stepL (s : StepV) : List Value := [.int .i64 s.k, .int .i64 s.w, .int .i64 s.p, .int .i64 s.n, s.v, .int .u16 s.lost]
def okStep (W : World) (s : StepV) : Prop := Byts W s.v s.d ∧ (-9223372036854775808 ≤ s.p ∧ s.p ≤ 9223372036854775807) ∧ (-9223372036854775808 ≤ s.n ∧ s.n ≤ 9223372036854775807) ∧ (-9223372036854775808 ≤ s.w ∧ s.w ≤ 9223372036854775807) ∧ 0 ≤ s.lost ∧ s.lost ≤ 65535
theorem stepL_6 (s : StepV) : (stepL s).length = 6 := rfl
theorem cells_step {H : Type} {enc : TypeId × Value → H} {W : World} (fuel : Nat) (cs : List Value) (y : DataW H × List MemPlace) (hl : cs.length = 6) (hf : DataW.trod enc Tryz.prog W 0 (fun _ => true) true fuel 44 cs = some y) : ∃ s, cs = stepL s ∧ okStep W s := by
 match cs, hl with
 | [c0, c1, c2, c3, c4, c5], _ =>
  obtain ⟨xs, n, _, hx, _, hlen, hg⟩ := DataW.trod_struct Tryz.underlying44 hf
  have zi : Program.cellsOf Tryz.prog 3 = 1 := by kernel_rfl
  have zb : Program.cellsOf Tryz.prog 42 = 1 := by kernel_rfl
  have zu : Program.cellsOf Tryz.prog 40 = 1 := by kernel_rfl
  match xs, hlen with
  | [y0, y1, y2, y3, y4, y5], _ =>
   have h0 : DataW.trod enc Tryz.prog W 0 (fun _ => true) true n 3 [c0] = some y0 := by simpa [Value.cells, zi] using hg 0 _ rfl
   have h1 : DataW.trod enc Tryz.prog W 0 (fun _ => true) true n 3 [c1] = some y1 := by simpa [Value.cells, zi] using hg 1 _ rfl
   have h2 : DataW.trod enc Tryz.prog W 0 (fun _ => true) true n 3 [c2] = some y2 := by simpa [Value.cells, zi] using hg 2 _ rfl
   have h3 : DataW.trod enc Tryz.prog W 0 (fun _ => true) true n 3 [c3] = some y3 := by simpa [Value.cells, zi] using hg 3 _ rfl
   have h4 : DataW.trod enc Tryz.prog W 0 (fun _ => true) true n 42 [c4] = some y4 := by simpa [Value.cells, zb] using hg 4 _ rfl
   have h5 : DataW.trod enc Tryz.prog W 0 (fun _ => true) true n 40 [c5] = some y5 := by simpa [Value.cells, zu] using hg 5 _ rfl
   obtain ⟨n0, e0, _, w0⟩ := DataW.trod_int Tryz.underlying3 h0
   obtain ⟨n1, e1, _, w1⟩ := DataW.trod_int Tryz.underlying3 h1
   obtain ⟨n2, e2, _, w2⟩ := DataW.trod_int Tryz.underlying3 h2
   obtain ⟨n3, e3, _, w3⟩ := DataW.trod_int Tryz.underlying3 h3
   obtain ⟨n5, e5, _, w5⟩ := DataW.trod_int Tryz.underlying40 h5
   obtain rfl : c0 = .int .i64 n0 := by simpa using e0
   obtain rfl : c1 = .int .i64 n1 := by simpa using e1
   obtain rfl : c2 = .int .i64 n2 := by simpa using e2
   obtain rfl : c3 = .int .i64 n3 := by simpa using e3
   obtain rfl : c5 = .int .u16 n5 := by simpa using e5
   obtain ⟨d, hd⟩ := cells_byts h4
   exact ⟨⟨n0, n1, n2, n3, c4, n5, d⟩, rfl, hd, bounds_i64 w2, bounds_i64 w3, bounds_i64 w1, bounds_u16 w5⟩
theorem open_steps {H : Type} {enc : TypeId × Value → H} {W : World} {v : Value} {d : DataW H} {p : List MemPlace} {base : Nat} (hval : Value.okWide Tryz.prog W .any base 39 v) (h : DataW.Trod enc Tryz.prog W 0 (fun _ => true) true 39 v d p) :
  ∃ l : List StepV, Sl W 6 v l.length (l.flatMap stepL) ∧ ∀ s ∈ l, okStep W s :=
 open_rows stepL stepL_6 (by decide) (okStep W) Tryz.underlying39 (by kernel_rfl) cells_step hval h
theorem step_cells (s : StepV) (l : List StepV) (i : Nat) (h : l[i]? = some s) (j : Nat) (hj : j < 6) : (l.flatMap stepL)[i * 6 + j]? = (stepL s)[j]? := by
 induction l generalizing i with
 | nil => simp at h
 | cons x l ih =>
  rw [List.flatMap_cons]
  cases i with
  | zero =>
   simp at h
   subst h
   rw [Nat.zero_mul, Nat.zero_add, List.getElem?_append_left (by rw [stepL_6]; omega)]
  | succ i =>
   rw [List.getElem?_append_right (by rw [stepL_6]; omega), stepL_6, show (i + 1) * 6 + j - 6 = i * 6 + j by omega]
   exact ih i (by simpa using h)
theorem steps_at {w : World} {v : Value} {l : List StepV} {i : Nat} {s : StepV} (h : Sl w 6 v l.length (l.flatMap stepL)) (hi : l[i]? = some s) : ∃ b off cap, v = .slice (some ⟨b, off, none⟩) l.length cap ∧ ∀ j u, (stepL s)[j]? = some u → w.cell? ⟨b, off + i * 6 + j, none⟩ = some u := by
 have hne : l.flatMap stepL ≠ [] := by
  intro e
  have h0 := step_cells s l i hi 0 (by decide)
  rw [e] at h0
  cases h0
 obtain ⟨b, off, cap, hv, _, _, hc⟩ := Sl.addr h hne
 refine ⟨b, off, cap, hv, fun j u hu => ?_⟩
 have hj : j < 6 := by have := (List.getElem?_eq_some_iff.1 hu).1; rw [stepL_6] at this; exact this
 rw [Nat.add_assoc]
 exact hc (i * 6 + j) u ((step_cells s l i hi j hj).trans hu)
end Go.Proofs.YtolgeghdkoodnaaGreatDoor
set_option maxRecDepth 100000
namespace Go.Proofs.YtolgeghdkoodnaaGreatDoor
open Go.RowKit Go.Maps
theorem Mod.none_belowX {w w' : World} (h : Mod (fun _ => False) w w') : Below w.heap.size w w' := h.below (Nat.le_refl _) (fun _ _ h => h.elim)
theorem refstream_any {w : World} {f : Fr} {vd : Value} (hv : FrV w f vd nilS) (hf : StrmOk f) :
  Calls Tryz.prog 16 #[.agg (frC f vd nilS)] w fun e w' => ∃ a c, e = .returned (.slice a (fputL f).length c) ∧ Mod (fun _ => False) w w' := by
 have hk : ∀ {e : Ending} {w' : World}, (∃ v, e = .returned v ∧ OwnB w' w.heap.size v (fputL f) ∧ Mod (fun _ => False) w w') → ∃ a c, e = .returned (.slice a (fputL f).length c) ∧ Mod (fun _ => False) w w' := by
  rintro e w' ⟨v, rfl, ho, hm⟩
  obtain ⟨a, c, rfl, -⟩ := Sl.val ho.byts
  exact ⟨a, c, rfl, hm⟩
 have hro : RngOk f := by intro x hx; rw [hf.2.2.2.1] at hx; cases hx
 by_cases ha : f.a = 0
 ·exact (refput_e00 hv (by rw [hf.2.2.2.1]; decide) hro hf.2.2.1 hf.1 hf.2.1 ha).mono fun _ _ h => hk h
 ·exact (refput_e01 hv (by rw [hf.2.2.2.1]; decide) hro hf.2.2.1 hf.1 hf.2.1 ha).mono fun _ _ h => hk h
theorem blk_load_pm {w : World} {b : Nat} {p : Pm} (h : Blk w b (pmC p) 29) (h16 : p.t.length = 16) : (Instr.loadAt 29 (.pointer (some ⟨b, 0, none⟩))).run Tryz.prog w = .ok (.agg (pmC p)) w :=
 run_loadAt_mid w b 0 29 (pmC p).toList _ h.whole Tryz.underlying29 rfl (size25 p h16)
theorem refmay_c {p : Pm} (h : p.t.length = 16) (w : World) : Calls Tryz.prog 13 #[.agg (pmC p)] w fun e w' => e = .returned (.bool (mayB p)) ∧ Mod (fun _ => False) w w' := refmay_any h w
def AtC (W w : World) (tb mb : Nat) (m : List Th) : Prop := ∃ G T, Calm T ∧ T.dom = [0, 4, 2] ∧ At W w (m ++ [tabTh W.heap.size tb mb G T])
theorem AtC.fin {W w : World} {tb mb : Nat} {m : List Th} (h : AtC W w tb mb m) : Mod (fun _ => False) W w := by
 obtain ⟨G, T, -, -, h⟩ := h
 exact h.fin
theorem AtC.still {W w w' : World} {tb mb : Nat} {m : List Th} (h : AtC W w tb mb m) (hM : Mod (fun _ => False) w w') : AtC W w' tb mb m := by
 obtain ⟨G, T, h1, h2, h⟩ := h
 exact ⟨G, T, h1, h2, h.still hM⟩
theorem AtC.drop {W w : World} {tb mb : Nat} {x : Th} {m : List Th} (h : AtC W w tb mb (x :: m)) : AtC W w tb mb m := by
 obtain ⟨G, T, h1, h2, h⟩ := h
 exact ⟨G, T, h1, h2, h.1.2.2, h.2⟩
theorem AtC.frame {W w : World} {tb mb : Nat} {D E n c : Nat} {a : Option Addr} {L : List Fr} {m : List Th} (h : AtC W w tb mb (frsTh D E (.slice a n c) L :: m)) {i : Nat} {f : Fr} (hi : L[i]? = some f) (hd : (f.d.length : Int) ≤ 1000000) :
  ∃ g vd, a = some ⟨g, 0, none⟩ ∧ FrV w f vd nilS ∧ w.rangeAt g (i * 24) (frL f vd nilS) := by
 obtain ⟨G, T, h1, h2, h⟩ := h
 exact At.frame (l := []) h hi hd
theorem frmsC_s {W w : World} {tb mb : Nat} (h : AtC W w tb mb []) (hT : Tabs W) (room : Int) (hr : 0 ≤ room ∧ room ≤ 80000) :
  Calls Tryz.prog 15 #[.pointer (some ⟨tb, 0, none⟩), .int .i64 room] w fun e w' => ∃ L a c D E, e = .returned (.slice a L.length c) ∧ AtC W w' tb mb [frsTh D E (.slice a L.length c) L] ∧ (∀ f ∈ L, StrmOk f) ∧ (lenF L : Int) ≤ room ∧ (L.length : Int) ≤ 90000 := by
 obtain ⟨G, T, hq, hd, h⟩ := h
 have hR := calm_frames hq hr.1
 have h1 := frames_s [] h hT hq.1 room hr
 exact h1.mono fun _ _ ⟨a, c, D, E, he, hs, _, _, hl⟩ => ⟨_, a, c, D, E, he, ⟨G, _, hR.calm, hR.dom.trans hd, hs⟩, hR.all, by have := hR.sum; have := hR.pos; omega, hl⟩
theorem writeC_s {W w : World} {tb mb : Nat} (h : AtC W w tb mb []) {id : Nat} {z : Int} (hz : (id : Int) = z) (hid : id = 0 ∨ id = 4) {dv : Value} {data : List UInt8} (hd : Byts w dv data) (hl : data.length ≤ 300) :
  Calls Tryz.prog 14 #[.pointer (some ⟨tb, 0, none⟩), .int .u64 z, dv] w fun e w' => ∃ x, e = .returned x ∧ AtC W w' tb mb [] := by
 subst hz
 obtain ⟨G, T, hq, hdm, h⟩ := h
 have hT : TBuf W.heap.size w tb mb G T := h.get []
 have hz2 : (id : Int) ∈ T.dom := by rw [hdm]; rcases hid with rfl | rfl <;> decide
 have hdw : (wrT T id data).dom = T.dom := by unfold wrT; split <;> rfl
 exact (write_s [] h (by unfold okId; rcases hid with rfl | rfl <;> decide) hd (by omega)).mono fun _ _ ⟨he, G', hs⟩ => ⟨_, he, G', _, calm_write hq (fun o ho => ((hT.strs _ hz2).out o ho).len) data, hdw.trans hdm, hs⟩
theorem openG1_s {W w : World} {tb mb : Nat} {G : Int → SM} {p : Pm} (h : At W w [tabTh W.heap.size tb mb G (tG1 p)]) : Calls Tryz.prog 11 #[.pointer (some ⟨tb, 0, none⟩), .bool false] w fun e w' => ∃ x, e = .returned x ∧ ∃ G', At W w' [tabTh W.heap.size tb mb G' (tG2 p)] :=
 (open_s [] h false (by rw [(tG_open p).1.1, (tG_open p).1.2]; decide) (by rw [(tG_open p).1.2]; decide)).mono fun _ _ ⟨he, hs⟩ => ⟨_, he, hs⟩
theorem openG2_s {W w : World} {tb mb : Nat} {G : Int → SM} {p : Pm} (h : At W w [tabTh W.heap.size tb mb G (tG2 p)]) : Calls Tryz.prog 11 #[.pointer (some ⟨tb, 0, none⟩), .bool false] w fun e w' => ∃ x, e = .returned x ∧ ∃ G', At W w' [tabTh W.heap.size tb mb G' (tG3 p)] :=
 (open_s [] h false (by rw [(tG_open p).2.1.1, (tG_open p).2.1.2]; decide) (by rw [(tG_open p).2.1.2]; decide)).mono fun _ _ ⟨he, hs⟩ => ⟨_, he, hs⟩
theorem openG3_s {W w : World} {tb mb : Nat} {G : Int → SM} {p : Pm} (h : At W w [tabTh W.heap.size tb mb G (tG3 p)]) : Calls Tryz.prog 11 #[.pointer (some ⟨tb, 0, none⟩), .bool true] w fun e w' => ∃ x, e = .returned x ∧ AtC W w' tb mb [] :=
 (open_s [] h true (by rw [(tG_open p).2.2.1, (tG_open p).2.2.2]; decide) (by rw [(tG_open p).2.2.2]; decide)).mono fun _ _ ⟨he, G', hs⟩ => ⟨_, he, G', _, (calm_tG p).1, (calm_tG p).2, hs⟩
def AtO (W w : World) (tb mb : Nat) (p : Pm) (i : Nat) : Prop := (i = 0 → ∃ G, At W w [tabTh W.heap.size tb mb G (tG1 p)]) ∧ (i = 1 → ∃ G, At W w [tabTh W.heap.size tb mb G (tG2 p)]) ∧ (i = 2 → ∃ G, At W w [tabTh W.heap.size tb mb G (tG3 p)]) ∧ (i = 3 → AtC W w tb mb [])
theorem openO_s {W w : World} {tb mb : Nat} {p : Pm} {i : Nat} (h : AtO W w tb mb p i) (hi : i < 3) : Calls Tryz.prog 11 #[.pointer (some ⟨tb, 0, none⟩), .bool (decide (i = 2))] w fun e w' => ∃ x, e = .returned x ∧ AtO W w' tb mb p (i + 1) := by
 obtain ⟨h0, h1, h2, -⟩ := h
 obtain rfl | rfl | rfl : i = 0 ∨ i = 1 ∨ i = 2 := by omega
 ·obtain ⟨G, hs⟩ := h0 rfl
  exact (openG1_s hs).mono fun _ _ ⟨x, he, hs'⟩ => ⟨x, he, fun e => (by cases e), fun _ => hs', fun e => (by cases e), fun e => (by cases e)⟩
 ·obtain ⟨G, hs⟩ := h1 rfl
  exact (openG2_s hs).mono fun _ _ ⟨x, he, hs'⟩ => ⟨x, he, fun e => (by cases e), fun e => (by cases e), fun _ => hs', fun e => (by cases e)⟩
 ·obtain ⟨G, hs⟩ := h2 rfl
  exact (openG3_s hs).mono fun _ _ ⟨x, he, hs'⟩ => ⟨x, he, fun e => (by cases e), fun e => (by cases e), fun e => (by cases e), fun _ => hs'⟩
theorem lenF_take (L : List Fr) (j : Nat) (f : Fr) (h : L[j]? = some f) : lenF (L.take (j + 1)) = lenF (L.take j) + (fputL f).length := by
 rw [List.take_add_one, h]
 exact lenF_snoc _ f
theorem lenF_le : ∀ (L : List Fr) (j : Nat), lenF (L.take j) ≤ lenF L
 | [], j => by simp
 | f :: L, 0 => by simp [lenF]
 | f :: L, j + 1 => by
  have := lenF_le L j
  unfold lenF at *
  simp only [List.take_succ_cons, List.map_cons, List.sum_cons]
  omega
theorem strm_pos {f : Fr} (h : StrmOk f) : 1 ≤ (fputL f).length := by
 unfold fputL
 rw [if_pos h.2.2.1]
 simp
end Go.Proofs.YtolgeghdkoodnaaGreatDoor
