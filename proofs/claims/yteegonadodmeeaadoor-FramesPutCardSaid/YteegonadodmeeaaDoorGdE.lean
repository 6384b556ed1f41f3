/- A frame's bytes: the document's. (printed by genhde3.py) -/
import Derived.Test.YteegonadodmeeaaDoorGdD
import Derived.Maps.AppendAt
namespace Go.Proofs.YteegonadodmeeaaDoor
open Go.RowKit

theorem refright_c {w : World} {f : Fr} {vd vr : Value} {C : Array Value} (hC : C = frC f vd vr) (hv : FrV w f vd vr) (hrl : (f.rs.length : Int) ≤ 100000) (hro : RngOk f) :
    Calls Tryd.prog 13 #[.agg C] w fun e w' => e = .returned (.bool (rightF f)) ∧ Mod (fun _ => False) w w' := by
  subst hC
  exact refright_any hv hrl hro
/-- What a letter puts. -/
def partC (f : Fr) (c : UInt8) : List UInt8 :=
  if c = 105 then putL f.id
  else if c = 99 then putL f.c
  else if c = 97 then (if (f.k = 8 ∧ f.a = 0) ∨ (f.k = 28 ∧ f.fl = true) then [] else putL f.a)
  else if c = 100 then (if f.k ≠ 26 ∧ f.k ≠ 27 then putL f.d.length else []) ++ f.d
  else []
theorem part_all {f : Fr} (h : rightF f = true) (h0 : f.k ≠ 0) (h2 : f.k ≠ 2) (h24 : f.k ≠ 24) : fputL f = UInt8.ofNat (tagN f) :: (whatL f.k).flatMap (partC f) := by
  unfold fputL
  rw [if_pos h]
  obtain ⟨m, hm, _⟩ := right_parts h
  congr 1
  obtain ⟨k, id, a, b, c, fl, d, rs, t⟩ := f
  rcases kind_cases hm with hk | hk | hk | hk | hk | hk | hk | hk | hk | hk | hk | hk | hk | hk | hk | hk | hk | hk | hk | hk
  all_goals (simp only at hk; subst hk)
  all_goals first
    | exact absurd rfl h0
    | exact absurd rfl h2
    | exact absurd rfl h24
    | (simp [whatL, partC, bodyN, dataL]; done)
    | (by_cases ha : a = 0 <;> simp [whatL, partC, bodyN, dataL, ha]; done)
    | (cases fl <;> simp [whatL, partC, bodyN, dataL]; done)
/-- 'append' of bytes onto a row of the call's own; where the new row lies. -/
theorem wpList_append_bx {w : World} {ops : Array Oper} {rest : List Oper} {o : Oper} {a : Act} {Q : Exit → Act → World → Prop} (hgd : o.guard = none) (s x : Operand)
    (ho : o.op = .call { callee := .builtin .append, args := #[s, x], argTypes := #[23, 23] })
    (v : Value) (l : List UInt8) (B n : Nat) (hs : a.eval s = v) (hown : OwnB w B v l)
    (sv : Value) (news : List UInt8) (hx : a.eval x = sv) (hsl : Byts w sv news) (L : List UInt8) (hL : L = l ++ news) (hn : l.length + news.length = n) (hbytes : (n : Int) ≤ 140737488355328) (hbase : B ≤ w.heap.size)
    (h : ∀ ap cp w', App w w' B n v (.slice ap n cp) L → ((Value.slice ap n cp).ownBlock = v.ownBlock ∨ (Value.slice ap n cp).ownBlock = some w.heap.size) → wpList Tryd.prog ops Q rest (a.put o.dst (.slice ap n cp)) w') : wpList Tryd.prog ops Q (o :: rest) a w := by
  subst hL
  obtain ⟨i0, hi, hz0, hz1, hz2⟩ := info_parts Tryd.info5
  obtain ⟨hl, ao, c, rfl, hc1, hc2, hc3, hc4⟩ := hsl
  cases ao with
  | none =>
    obtain rfl := hc3 rfl
    have h0 : news = [] := List.eq_nil_of_length_eq_zero (by omega)
    subst h0
    have hrun := run_append_owned_none (P := Tryd.prog) (w := w) B 23 o.type 5 i0 1 Tryd.underlying23 hi v l.length (l.map bv) hown
    refine wpList_plain hgd fun K hK => ?_
    obtain ⟨ap, cp, rfl, _⟩ := byts_val hown.byts
    have e : l.length = n := by simpa using hn
    have hap := h ap cp w (by
      rw [List.append_nil, ← e]
      exact ⟨hown, hown.byts, ⟨_, _, rfl⟩, fun hM _ => hM, fun g hg => (World.ownsRow.lt hown g hg).1⟩) (.inl (by rw [e]))
    unfold Oper.wp
    simp [execOp, ho, resolve, invoke, builtin, hs, hx, hrun, Result.andThen]
    rw [← e] at hap
    exact hK _ _ hap
  | some ad =>
    refine wpList_append_own_at w hgd s x 23 ho B 5 i0 (.int .u8 0) 1 1 Tryd.underlying23 hi hz0 hz1 hz2 rfl (by decide) v l.length (l.map bv) hs hown ad news.length c (news.map bv) hx (by simp) ?_ (bv_one _) (by unfold maxLen; omega) (by omega) hbase ?_
    · intro j u hu
      obtain ⟨b, off, he, hcell⟩ := hc4 j u hu
      simp at he
      subst he
      rw [Addr.add_lit]
      exact hcell
    · intro v' w' ho' hg _ hat
      have ho2 : OwnB w' B v' (l ++ news) := by unfold OwnB; simpa using ho'
      obtain ⟨ap, cp, rfl, _⟩ := byts_val ho2.byts
      have e : (l ++ news).length = n := by simpa using hn
      rw [e] at ho2 hat ⊢
      exact h ap cp w' ⟨ho2, ho2.byts, ⟨_, _, rfl⟩, fun hM hS => hM.grown hg (fun k hk hlt => hS k hk hlt), fun g hg' => (World.ownsRow.lt hown g hg').1⟩ hat
/-- The state of Put: the frame's box, what is put so far, and the bytes of how many Data is. -/
structure PtS (w0 w : World) (f : Fr) (vd vr v : Value) (L : List UInt8) (vz : Value) (LZ : List UInt8) : Prop where
  a : FrB w w0.heap.size f vd vr
  fv : FrV w0 f vd vr
  o : OwnB w w0.heap.size v L
  m : Mod (fun _ => False) w0 w
  z : Byts w vz LZ
  ap : ∀ g, blockOf vz = some g → ¬ v.ownBlock = some g
  lt : ∀ g, blockOf vz = some g → g < w.heap.size
theorem PtS.kept {w0 w w' : World} {f : Fr} {vd vr v vz : Value} {L LZ : List UInt8} (h : PtS w0 w f vd vr v L vz LZ) (hM : Mod (fun _ => False) w w') : PtS w0 w' f vd vr v L vz LZ :=
  ⟨h.a.kept hM, h.fv, h.o.keptF hM, h.m.trans hM, byts_kept h.z hM, h.ap, fun g hg => Nat.lt_of_lt_of_le (h.lt g hg) hM.size⟩
theorem PtS.app {w0 w w' : World} {f : Fr} {vd vr v v' vz : Value} {L L' LZ : List UInt8} {n : Nat} (h : PtS w0 w f vd vr v L vz LZ) (hA : App w w' w0.heap.size n v v' L') (hat : v'.ownBlock = v.ownBlock ∨ v'.ownBlock = some w.heap.size) : PtS w0 w' f vd vr v' L' vz LZ := by
  have hM : Mod (fun k => v.ownBlock = some k) w w' := hA.mod (w0 := w) (S := fun k => v.ownBlock = some k) (Mod.refl _ _) (fun g hg _ => hg)
  refine ⟨⟨hM.blk h.a.blk (OwnB.apart h.o h.a.blk (by decide)), h.a.len⟩, h.fv, hA.own, hA.modF h.m (Nat.le_refl _), hM.sl h.z (fun _ g hg => h.ap g hg), fun g hg e => ?_, fun g hg => Nat.lt_of_lt_of_le (h.lt g hg) hM.size⟩
  rcases hat with e2 | e2
  · exact h.ap g hg (e2 ▸ e)
  · rw [e2] at e
    have := Option.some.inj e
    have := h.lt g hg
    omega
theorem PtS.made {w0 w : World} {f : Fr} {vd vr : Value} {z : Int} {n : Nat} (ha : FrB w w0.heap.size f vd vr) (hf : FrV w0 f vd vr) (hm : Mod (fun _ => False) w0 w) (hz : (n : Int) = z) (hn : n ≤ 255) : PtS w0 (w.alloc (.cells #[.int .u8 z] 5)) f vd vr (.slice (some ⟨w.heap.size, 0, none⟩) 1 1) [UInt8.ofNat n] (.slice none 0 0) [] :=
  ⟨ha.kept ((Mod.refl _ _).alloc _), hf, tag_own w w0.heap.size hz hn hm.size, hm.alloc _, Sl.nil _ _, fun g hg => by simp [blockOf] at hg, fun g hg => by simp [blockOf] at hg⟩
theorem PtS.setz {w0 w w' : World} {f : Fr} {vd vr v v0 vz : Value} {L L0 LZ : List UInt8} (h : PtS w0 w f vd vr v L v0 L0) (hM : Mod (fun _ => False) w w') (ho : OwnB w' w.heap.size vz LZ) : PtS w0 w' f vd vr v L vz LZ := by
  have hb : ∀ g, blockOf vz = some g → vz.ownBlock = some g := by
    intro g hg
    rcases ho.2 with ⟨rfl, _⟩ | ⟨g', cap, cur, rfl, _⟩
    · simp [blockOf] at hg
    · simpa [blockOf, Value.ownBlock] using hg
  refine ⟨h.a.kept hM, h.fv, h.o.keptF hM, h.m.trans hM, ho.byts, fun g hg e => ?_, fun g hg => (World.ownsRow.lt ho g (hb g hg)).2⟩
  have h1 := (World.ownsRow.lt ho g (hb g hg)).1
  have h2 := (World.ownsRow.lt h.o g e).2
  omega
theorem str_at (S : List UInt8) : ∀ (i : Nat) (c : UInt8) (X : World), S[i]? = some c → (Instr.index 9 (.string ⟨S.toArray⟩) (.int .i64 (i : Int))).run Tryd.prog X = .ok (.int .u8 (c.toNat : Int)) X := by
  intro i c X h
  obtain ⟨hi, e⟩ := List.getElem?_eq_some_iff.1 h
  have hs : (ByteArray.mk S.toArray).size = S.length := by simp [ByteArray.size]
  rw [run_index_string X 9 ⟨S.toArray⟩ .i64 (i : Int) Tryd.underlying9, dif_pos ⟨by omega, by rw [hs]; omega⟩]
  have : (ByteArray.mk S.toArray)[(i : Int).toNat]'(by rw [hs]; omega) = c := by
    show S.toArray[(i : Int).toNat]'_ = c
    simpa using e
  rw [this]
theorem PtS.tok {w0 w : World} {f : Fr} {vd vr v vz : Value} {L LZ : List UInt8} (h : PtS w0 w f vd vr v L vz LZ) : Byts w (.slice (some ⟨w0.heap.size, 8, none⟩) 16 16) f.t := by
  have h16 := h.a.len
  refine ⟨by simp, some ⟨w0.heap.size, 8, none⟩, 16, by rw [h16], by omega, by decide, fun e => by simp at e, fun j u hu => ⟨w0.heap.size, 8, rfl, h.a.tok j u hu⟩⟩
theorem tag_le {f : Fr} (h : rightF f = true) : tagN f ≤ 255 := by
  obtain ⟨m, hm, _⟩ := right_parts h
  unfold tagN
  rcases kind_cases hm with hk | hk | hk | hk | hk | hk | hk | hk | hk | hk | hk | hk | hk | hk | hk | hk | hk | hk | hk | hk
  all_goals (rw [hk]; split <;> split <;> (try split) <;> omega)
set_option maxHeartbeats 16000000 in
set_option maxRecDepth 10000 in
theorem refput_no {w : World} {f : Fr} {vd vr : Value} (hv : FrV w f vd vr) (hrl : (f.rs.length : Int) ≤ 100000) (hro : RngOk f) (hr : rightF f = false) :
    Calls Tryd.prog 16 #[frV f vd vr] w fun e w' => ∃ v, e = .returned v ∧ OwnB w' w.heap.size v (fputL f) ∧ Mod (fun _ => False) w w' := by
  obtain ⟨R, hR⟩ : ∃ R, R = fputL f := ⟨_, rfl⟩
  rw [← hR]
  have HRR := Lib.hid hR
  have HV := Lib.hid hv
  have HF0 := Lib.hid (FrB.new w f vd vr hv.t)
  have HM0 : Hid (Mod (fun _ => False) w (w.alloc (.cells (frC f vd vr) 27))) := (Mod.refl _ _).alloc _
  obtain ⟨da, dc, rfl, _⟩ := byts_val hv.d
  obtain ⟨ra, rc, rfl, hrc, _⟩ := rg_val hv.r
  have HRT := Lib.hid (fun (X : World) (C : Array Value) (hC : C = frC f (.slice da f.d.length dc) (.slice ra f.rs.length rc)) (h : Mod (fun _ => False) w X) => refright_c hC (hv.kept h) hrl hro)
  have hdl := hv.dl
  obtain ⟨nd, hnd⟩ : ∃ n, f.d.length = n := ⟨_, rfl⟩
  obtain ⟨nr, hnr⟩ : ∃ n, f.rs.length = n := ⟨_, rfl⟩
  have HND := Lib.hid hnd
  have HNR := Lib.hid hnr
  rw [hnd, hnr] at HV HF0 HM0 HRT ⊢
  rw [hnd] at hdl
  rw [hnr] at hrl hrc
  have hrc2 : (nr : Int) ≤ rc := by omega
  obtain ⟨C, hC⟩ : ∃ C, C = frC f (.slice da nd dc) (.slice ra nr rc) := ⟨_, rfl⟩
  have HC := Lib.hid hC
  unfold frV
  rw [← hC] at HM0 ⊢
  have HF1 : Hid (FrB (w.alloc (.cells C 27)) w.heap.size f (.slice da nd dc) (.slice ra nr rc)) := by show FrB _ _ _ _ _; rw [hC]; exact HF0.out
  have HLD : Hid ((Instr.loadAt 27 (.pointer (some ⟨w.heap.size, 0, none⟩))).run Tryd.prog (w.alloc (.cells C 27)) = .ok (.agg C) (w.alloc (.cells C 27))) := by
    have h := blk_loadAt HF1.out
    unfold frV at h
    rwa [← HC.out] at h
  clear HF0 hR hv hro hnd hnr hC hrc
  go_enter Tryd.func16, Tryd.ntmps16
  go_wp2_with (first | ((with_reducible refine wpList_load_v 27 (.tmp 1) ?_ ?_ (.pointer (some ⟨w.heap.size, 0, none⟩)) (.agg C) ?_ HLD.out ?_); (· exact rfl); (· exact rfl); (· exact rfl)) | fail)
  refine (HRT.out _ C HC.out HM0.out).mono ?_
  rintro e w2 ⟨rfl, hM2⟩
  have HM2 := Lib.hid (HM0.out.trans hM2)
  have HF2 := Lib.hid (HF1.out.kept hM2)
  clear hM2 HM0 HF1 HRT
  rw [hr]
  have hR0 : R = [] := by rw [HRR.out]; unfold fputL; rw [hr]; rfl
  subst hR0
  clear hr
  go_wp2_with fail
  go_ret
  exact ⟨_, rfl, OwnB.nil _ _, HM2.out⟩
set_option maxHeartbeats 16000000 in
set_option maxRecDepth 10000 in
theorem refput_d0 {w : World} {f : Fr} {vd vr : Value} (hv : FrV w f vd vr) (hrl : (f.rs.length : Int) ≤ 100000) (hro : RngOk f) (hr : rightF f = true) {k : Int} (hk : f.k = k) (h0 : k ≠ 0) (h2 : k ≠ 2) (h24 : k ≠ 24) (h8 : k ≠ 8) (hfl : f.fl = false) :
    Calls Tryd.prog 16 #[frV f vd vr] w fun e w' => ∃ v, e = .returned v ∧ OwnB w' w.heap.size v (fputL f) ∧ Mod (fun _ => False) w w' := by
  obtain ⟨R, hR⟩ : ∃ R, R = fputL f := ⟨_, rfl⟩
  rw [← hR]
  have HRR := Lib.hid hR
  have HV := Lib.hid hv
  have HF0 := Lib.hid (FrB.new w f vd vr hv.t)
  have HM0 : Hid (Mod (fun _ => False) w (w.alloc (.cells (frC f vd vr) 27))) := (Mod.refl _ _).alloc _
  obtain ⟨da, dc, rfl, _⟩ := byts_val hv.d
  obtain ⟨ra, rc, rfl, hrc, _⟩ := rg_val hv.r
  have HRT := Lib.hid (fun (X : World) (C : Array Value) (hC : C = frC f (.slice da f.d.length dc) (.slice ra f.rs.length rc)) (h : Mod (fun _ => False) w X) => refright_c hC (hv.kept h) hrl hro)
  have hdl := hv.dl
  obtain ⟨nd, hnd⟩ : ∃ n, f.d.length = n := ⟨_, rfl⟩
  obtain ⟨nr, hnr⟩ : ∃ n, f.rs.length = n := ⟨_, rfl⟩
  have HND := Lib.hid hnd
  have HNR := Lib.hid hnr
  rw [hnd, hnr] at HV HF0 HM0 HRT ⊢
  rw [hnd] at hdl
  rw [hnr] at hrl hrc
  have hrc2 : (nr : Int) ≤ rc := by omega
  obtain ⟨C, hC⟩ : ∃ C, C = frC f (.slice da nd dc) (.slice ra nr rc) := ⟨_, rfl⟩
  have HC := Lib.hid hC
  unfold frV
  rw [← hC] at HM0 ⊢
  have HF1 : Hid (FrB (w.alloc (.cells C 27)) w.heap.size f (.slice da nd dc) (.slice ra nr rc)) := by show FrB _ _ _ _ _; rw [hC]; exact HF0.out
  have HLD : Hid ((Instr.loadAt 27 (.pointer (some ⟨w.heap.size, 0, none⟩))).run Tryd.prog (w.alloc (.cells C 27)) = .ok (.agg C) (w.alloc (.cells C 27))) := by
    have h := blk_loadAt HF1.out
    unfold frV at h
    rwa [← HC.out] at h
  clear HF0 hR hv hro hnd hnr hC hrc
  go_enter Tryd.func16, Tryd.ntmps16
  go_wp2_with (first | ((with_reducible refine wpList_load_v 27 (.tmp 1) ?_ ?_ (.pointer (some ⟨w.heap.size, 0, none⟩)) (.agg C) ?_ HLD.out ?_); (· exact rfl); (· exact rfl); (· exact rfl)) | fail)
  refine (HRT.out _ C HC.out HM0.out).mono ?_
  rintro e w2 ⟨rfl, hM2⟩
  have HM2 := Lib.hid (HM0.out.trans hM2)
  have HF2 := Lib.hid (HF1.out.kept hM2)
  clear hM2 HM0 HF1 HRT
  have HRF := Lib.hid hr
  rw [hr]
  have hnd2 : (nd : Int) ≤ 1200 := by have := (right_len hr).1; have := HND.out; omega
  obtain ⟨c0, c1, c2, c3, c4, c5, c6, c7⟩ := HF2.out.cells
  have HCX := Lib.hid (fun (X : World) (h : Mod (fun _ => False) w2 X) => (HF2.out.kept h).cells)
  have HTG : Hid (tagN f ≤ 255) := tag_le hr
  have hw0 : IntKind.u64.wrap (nd : Int) = nd := IntWalk.u64_in _ (by omega)
  have HPA : Hid (fputL f = UInt8.ofNat (tagN f) :: (whatL k).flatMap (partC f)) := by
    show _ = _
    have := part_all hr (by rw [hk]; exact h0) (by rw [hk]; exact h2) (by rw [hk]; exact h24)
    rwa [hk] at this
  have HW4 : Hid ((whatL k).length ≤ 4) := by
    obtain ⟨m, hm, _⟩ := right_parts hr
    rw [hk] at hm
    exact (what_known hm).2
  have HK := Lib.hid hk
  have HFL := Lib.hid hfl
  have hkr := right_parts hr
  obtain ⟨mk, hmk, -⟩ := hkr
  rw [hk] at hmk
  have hkb : (0 : Int) ≤ k ∧ k ≤ 30 := by rcases kind_cases hmk with h | h | h | h | h | h | h | h | h | h | h | h | h | h | h | h | h | h | h | h <;> omega
  have HTZ : Hid ((tagN f : Int) = k) := by show _ = _; unfold tagN; rw [if_neg (by rw [hk]; exact h8), hk, hfl]; simp; omega
  have hwk : IntKind.u8.wrap (k) = k := IntWalk.u8_in _ (by omega)
  have hwi : IntKind.i64.wrap (k) = k := IntWalk.i64_in _ (by omega)
  have b0 : (k == 0) = false := by simpa using h0
  have b2 : (k == 2) = false := by simpa using h2
  have b8 : (k == 8) = false := by simpa using h8
  have b24 : (k == 24) = false := by simpa using h24
  have HK8 : Hid (f.k ≠ 8) := by show _ ≠ _; rw [hk]; exact h8
  have HKQ : Hid (f.fl = true → k ≠ 26 ∧ k ≠ 27) := fun hf => ⟨(fun e => by have := fl_of hr (by rw [hk, e]; decide); rw [this] at hf; cases hf), (fun e => by have := fl_of hr (by rw [hk, e]; decide); rw [this] at hf; cases hf)⟩
  rw [hk] at c0
  rw [hfl] at c5
  clear hk hfl hr hmk h0 h2 h24 h8
  have c6a := (HCX.out _ ((Mod.refl (fun _ => False) w2).alloc (.cells #[.int .u8 (k)] 5))).2.2.2.2.2.2.1
  go_wp2_with fail
  have HP2 := Lib.hid (PtS.made (n := tagN f) HF2.out HV.out HM2.out (z := k) HTZ.out HTG.out)
  clear HF2 HTZ HCX c6a c0 c1 c2 c3 c4 c5 c6 c7
  refine (refput_any nd _).mono ?_
  rintro e w3 ⟨v3, rfl, ho3, hM3⟩
  have HM3 : Hid (Mod (fun _ => False) w2 w3) := ((Mod.refl _ _).alloc _).trans hM3
  have HP3 := Lib.hid (HP2.out.setz hM3 ho3)
  obtain ⟨az, cz, rfl, _⟩ := byts_val ho3.byts
  obtain ⟨c0, c1, c2, c3, c4, c5, c6, c7⟩ := HP3.out.a.cells
  obtain ⟨LZ, hLZ⟩ : ∃ x, x = putL nd := ⟨_, rfl⟩
  rw [← hLZ] at HP3 ⊢
  have HLZ := Lib.hid hLZ
  have HLZN : Hid ((LZ.length : Int) ≤ 8) := by show _ ≤ _; rw [hLZ]; have := putL_len nd; omega
  obtain ⟨nz, hnz⟩ : ∃ x, LZ.length = x := ⟨_, rfl⟩
  rw [hnz] at HP3 HLZN ⊢
  have HNZ := Lib.hid hnz
  clear hM3 ho3 HP2 hLZ hnz
  generalize w2.heap.size = gt at *
  rw [HK.out] at c0
  rw [HFL.out] at c5
  go_wp2_with fail
  refine (what_any _ k).mono ?_
  rintro e w4 ⟨rfl, rfl⟩
  unfold strV
  obtain ⟨s1, hs1⟩ : ∃ s, s = ByteArray.mk (whatL k).toArray := ⟨_, rfl⟩
  rw [← hs1]
  obtain ⟨S, hS⟩ : ∃ S, S = whatL k := ⟨_, rfl⟩
  obtain ⟨n, hn⟩ : ∃ n, S.length = n := ⟨_, rfl⟩
  have hsz : s1.size = n := by rw [hs1, ← hn, hS]; simp [ByteArray.size]
  have HIX : Hid (∀ (i : Nat) (c : UInt8) (X : World), S[i]? = some c → (Instr.index 9 (.string s1) (.int .i64 (i : Int))).run Tryd.prog X = .ok (.int .u8 (c.toNat : Int)) X) := by
    rw [hs1, ← hS]
    exact str_at S
  have hn4 : (n : Int) ≤ 4 := by have := HW4.out; rw [← hS, hn] at this; omega
  have HN := Lib.hid hn
  have HSW := Lib.hid hS
  clear hs1 hS hn HW4
  clear c0 c1 c2 c3 c4 c5 c6 c7
  go_wp2_with fail
  go_loopw [4, 9] (fun s4 s9 wr => ∃ (i q : Nat) (ap : Option Addr) (cp : Nat) (L : List UInt8), s9 = .int .i64 i ∧ s4 = .slice ap q cp ∧ i ≤ n ∧ (q : Int) ≤ 1 + 2000 * (i : Int) ∧ Hid (PtS w wr f (.slice da nd dc) (.slice ra nr rc) (.slice ap q cp) L (.slice az nz cz) LZ) ∧ Hid (L.length = q ∧ L = UInt8.ofNat (tagN f) :: (S.take i).flatMap (partC f))) (fun _ s9 _ => n - (intOf s9).toNat)
  case atStart => exact ⟨0, 1, _, _, _, rfl, rfl, Nat.zero_le _, by decide, HP3, ⟨rfl, by simp⟩⟩
  case round =>
    clear HP3
    obtain ⟨i, q, ap, cp, L, rfl, rfl, hi, hq, HP, HL⟩ := hrel
    by_cases hin : (i : Int) < n
    · have hil : i < S.length := by have := HN.out; omega
      have hc : S[i]? = some S[i] := List.getElem?_eq_getElem hil
      generalize S[i] = c at hc
      have hix := fun X => HIX.out i c X hc
      have HC' := Lib.hid hc
      have HZ' : Hid (∀ n : Nat, n < 256 → (c.toNat : Int) = (n : Int) → c = UInt8.ofNat n) := fun n hn h => UInt8.toNat_inj.1 (by rw [UInt8.toNat_ofNat_of_lt' (by show _ < 256; omega)]; omega)
      have HST : Hid (∀ P, partC f c = P → UInt8.ofNat (tagN f) :: (S.take (i + 1)).flatMap (partC f) = L ++ P) := fun P h => by
        rw [take_snoc S i c HC'.out, List.flatMap_append, HL.out.2, ← h]
        simp
      have HSN : Hid (∀ n : Nat, n < 256 → (c.toNat : Int) ≠ (n : Int) → c ≠ UInt8.ofNat n) := fun n hn h e => h (by rw [e, UInt8.toNat_ofNat_of_lt' (by show _ < 256; omega)])
      clear hc hil
      generalize (c.toNat : Int) = z at *
      obtain ⟨c0, c1, c2, c3, c4, c5, c6, c7⟩ := HP.out.a.cells
      rw [HK.out] at c0
      rw [HFL.out] at c5
      by_cases h105 : z = 105
      · have hce : c = 105 := HZ'.out 105 (by decide) h105
        have HSE := HST.out (putL f.id) (by unfold partC; rw [if_pos hce])
        have HSEH := Lib.hid HSE
        subst h105
        clear hce HST HSN HZ' HSE
        go_wp2_with fail
        refine (refput_any f.id _).mono ?_
        rintro e w5 ⟨v5, rfl, ho5, hM5⟩
        have HP5 := Lib.hid (HP.out.kept hM5)
        have HB5 := Lib.hid ho5.byts
        obtain ⟨a5, c5', rfl, _⟩ := byts_val ho5.byts
        obtain ⟨N, hN⟩ : ∃ x, x = putL f.id := ⟨_, rfl⟩
        rw [← hN] at HB5 HSEH ⊢
        obtain ⟨nn, hnn⟩ : ∃ x, N.length = x := ⟨_, rfl⟩
        rw [hnn] at HB5 ⊢
        have hn8 : (nn : Int) ≤ 8 := by rw [← hnn, hN]; have := putL_len f.id; omega
        have HSUM : Hid (L.length + N.length = q + nn) := by show _ = _; rw [HL.out.1, hnn]
        clear hM5 ho5 hN hnn HP c0 c1 c2 c3 c4 c5 c6 c7
        go_wp2_with (first
          | ((with_reducible refine wpList_append_bx ?_ (.tmp 53) (.tmp 56) ?_ (.slice ap q cp) L w.heap.size (q + nn) ?_ HP5.out.o (.slice a5 nn c5') N ?_ HB5.out (L ++ N) rfl HSUM.out ?_ HP5.out.m.size ?_); (· exact rfl); (· exact rfl); (· exact rfl); (· exact rfl); (· omega); intro ap6 cp6 w6 hA hat; have HP6 := Lib.hid (HP5.out.app hA hat); clear hA hat)
          | fail)
        go_roundw
        case rel => exact ⟨i + 1, q + nn, _, _, _, by go_num, rfl, by omega, by omega, HP6, ⟨by rw [List.length_append]; exact HSUM.out, HSEH.out.symm⟩⟩
        case measure => simp [intOf]; omega
      have HN105 : Hid (c ≠ 105) := HSN.out 105 (by decide) h105
      have b105 : (z == 105) = false := by simpa using h105
      clear h105
      by_cases h99 : z = 99
      · have hce : c = 99 := HZ'.out 99 (by decide) h99
        have HSE := HST.out (putL f.c) (by unfold partC; rw [if_neg (show c ≠ 105 from HN105.out), if_pos hce])
        have HSEH := Lib.hid HSE
        subst h99
        clear hce HST HSN HZ' HSE
        go_wp2_with fail
        refine (refput_any f.c _).mono ?_
        rintro e w5 ⟨v5, rfl, ho5, hM5⟩
        have HP5 := Lib.hid (HP.out.kept hM5)
        have HB5 := Lib.hid ho5.byts
        obtain ⟨a5, c5', rfl, _⟩ := byts_val ho5.byts
        obtain ⟨N, hN⟩ : ∃ x, x = putL f.c := ⟨_, rfl⟩
        rw [← hN] at HB5 HSEH ⊢
        obtain ⟨nn, hnn⟩ : ∃ x, N.length = x := ⟨_, rfl⟩
        rw [hnn] at HB5 ⊢
        have hn8 : (nn : Int) ≤ 8 := by rw [← hnn, hN]; have := putL_len f.c; omega
        have HSUM : Hid (L.length + N.length = q + nn) := by show _ = _; rw [HL.out.1, hnn]
        clear hM5 ho5 hN hnn HP c0 c1 c2 c3 c4 c5 c6 c7
        go_wp2_with (first
          | ((with_reducible refine wpList_append_bx ?_ (.tmp 60) (.tmp 63) ?_ (.slice ap q cp) L w.heap.size (q + nn) ?_ HP5.out.o (.slice a5 nn c5') N ?_ HB5.out (L ++ N) rfl HSUM.out ?_ HP5.out.m.size ?_); (· exact rfl); (· exact rfl); (· exact rfl); (· exact rfl); (· omega); intro ap6 cp6 w6 hA hat; have HP6 := Lib.hid (HP5.out.app hA hat); clear hA hat)
          | fail)
        go_roundw
        case rel => exact ⟨i + 1, q + nn, _, _, _, by go_num, rfl, by omega, by omega, HP6, ⟨by rw [List.length_append]; exact HSUM.out, HSEH.out.symm⟩⟩
        case measure => simp [intOf]; omega
      have HN99 : Hid (c ≠ 99) := HSN.out 99 (by decide) h99
      have b99 : (z == 99) = false := by simpa using h99
      clear h99
      by_cases h97 : z = 97
      · have hce : c = 97 := HZ'.out 97 (by decide) h97
        subst h97
        by_cases hk28 : k = 28
        · subst hk28
          have HSEH := Lib.hid (HST.out (putL f.a) (by unfold partC; rw [if_neg (show c ≠ 105 from HN105.out), if_neg (show c ≠ 99 from HN99.out), if_pos hce, if_neg (fun e => e.elim (fun h => by have h := h.1; rw [HK.out] at h; cases h) (fun h => by have h := h.2; rw [HFL.out] at h; cases h))]))
          clear hce HST HSN HZ'
          go_wp2_with fail
          refine (refput_any f.a _).mono ?_
          rintro e w5 ⟨v5, rfl, ho5, hM5⟩
          have HP5 := Lib.hid (HP.out.kept hM5)
          have HB5 := Lib.hid ho5.byts
          obtain ⟨a5, c5', rfl, _⟩ := byts_val ho5.byts
          obtain ⟨N, hN⟩ : ∃ x, x = putL f.a := ⟨_, rfl⟩
          rw [← hN] at HB5 HSEH ⊢
          obtain ⟨nn, hnn⟩ : ∃ x, N.length = x := ⟨_, rfl⟩
          rw [hnn] at HB5 ⊢
          have hn8 : (nn : Int) ≤ 8 := by rw [← hnn, hN]; have := putL_len f.a; omega
          have HSUM : Hid (L.length + N.length = q + nn) := by show _ = _; rw [HL.out.1, hnn]
          clear hM5 ho5 hN hnn HP c0 c1 c2 c3 c4 c5 c6 c7
          go_wp2_with (first
            | ((with_reducible refine wpList_append_bx ?_ (.tmp 84) (.tmp 87) ?_ (.slice ap q cp) L w.heap.size (q + nn) ?_ HP5.out.o (.slice a5 nn c5') N ?_ HB5.out (L ++ N) rfl HSUM.out ?_ HP5.out.m.size ?_); (· exact rfl); (· exact rfl); (· exact rfl); (· exact rfl); (· omega); intro ap6 cp6 w6 hA hat; have HP6 := Lib.hid (HP5.out.app hA hat); clear hA hat)
            | fail)
          go_roundw
          case rel => exact ⟨i + 1, q + nn, _, _, _, by go_num, rfl, by omega, by omega, HP6, ⟨by rw [List.length_append]; exact HSUM.out, HSEH.out.symm⟩⟩
          case measure => simp [intOf]; omega
        · have hkb : (k == 28) = false := by simpa using hk28
          have HK28 : Hid (f.k ≠ 28) := by show _ ≠ _; rw [HK.out]; exact hk28
          clear hk28
          have HSEH := Lib.hid (HST.out (putL f.a) (by unfold partC; rw [if_neg (show c ≠ 105 from HN105.out), if_neg (show c ≠ 99 from HN99.out), if_pos hce, if_neg (fun e => e.elim (fun h => HK8.out h.1) (fun h => HK28.out h.1))]))
          clear hce HST HSN HZ'
          go_wp2_with fail
          refine (refput_any f.a _).mono ?_
          rintro e w5 ⟨v5, rfl, ho5, hM5⟩
          have HP5 := Lib.hid (HP.out.kept hM5)
          have HB5 := Lib.hid ho5.byts
          obtain ⟨a5, c5', rfl, _⟩ := byts_val ho5.byts
          obtain ⟨N, hN⟩ : ∃ x, x = putL f.a := ⟨_, rfl⟩
          rw [← hN] at HB5 HSEH ⊢
          obtain ⟨nn, hnn⟩ : ∃ x, N.length = x := ⟨_, rfl⟩
          rw [hnn] at HB5 ⊢
          have hn8 : (nn : Int) ≤ 8 := by rw [← hnn, hN]; have := putL_len f.a; omega
          have HSUM : Hid (L.length + N.length = q + nn) := by show _ = _; rw [HL.out.1, hnn]
          clear hM5 ho5 hN hnn HP c0 c1 c2 c3 c4 c5 c6 c7
          go_wp2_with (first
            | ((with_reducible refine wpList_append_bx ?_ (.tmp 84) (.tmp 87) ?_ (.slice ap q cp) L w.heap.size (q + nn) ?_ HP5.out.o (.slice a5 nn c5') N ?_ HB5.out (L ++ N) rfl HSUM.out ?_ HP5.out.m.size ?_); (· exact rfl); (· exact rfl); (· exact rfl); (· exact rfl); (· omega); intro ap6 cp6 w6 hA hat; have HP6 := Lib.hid (HP5.out.app hA hat); clear hA hat)
            | fail)
          go_roundw
          case rel => exact ⟨i + 1, q + nn, _, _, _, by go_num, rfl, by omega, by omega, HP6, ⟨by rw [List.length_append]; exact HSUM.out, HSEH.out.symm⟩⟩
          case measure => simp [intOf]; omega
      have HN97 : Hid (c ≠ 97) := HSN.out 97 (by decide) h97
      have b97 : (z == 97) = false := by simpa using h97
      clear h97
      by_cases h100 : z = 100
      · have hce : c = 100 := HZ'.out 100 (by decide) h100
        subst h100
        by_cases hk26 : k = 26
        · subst hk26
          have HSEH := Lib.hid (HST.out f.d (by unfold partC; rw [if_neg (show c ≠ 105 from HN105.out), if_neg (show c ≠ 99 from HN99.out), if_neg (show c ≠ 97 from HN97.out), if_pos hce, if_neg (by rw [HK.out]; decide)]; rfl))
          clear hce HST HSN HZ'
          have HSUM2 : Hid (L.length + f.d.length = q + nd) := by show _ = _; rw [HL.out.1, HND.out]
          have HD6 : Hid (Byts wr (.slice da nd dc) f.d) := byts_kept HP.out.fv.d HP.out.m
          go_wp2_with (first
            | ((with_reducible refine wpList_append_bx ?_ (.tmp 102) (.tmp 104) ?_ (.slice ap q cp) L w.heap.size (q + nd) ?_ HP.out.o (.slice da nd dc) f.d ?_ HD6.out (L ++ f.d) rfl HSUM2.out ?_ HP.out.m.size ?_); (· exact rfl); (· exact rfl); (· exact rfl); (· exact rfl); (· omega); intro ap7 cp7 w7 hA hat; have HP7 := Lib.hid (HP.out.app hA hat); clear hA hat)
            | fail)
          go_roundw
          case rel => exact ⟨i + 1, q + nd, _, _, _, by go_num, rfl, by omega, by omega, HP7, ⟨by rw [List.length_append]; exact HSUM2.out, HSEH.out.symm⟩⟩
          case measure => simp [intOf]; omega
        have hkb26 : (k == 26) = false := by simpa using hk26
        have hkc26 : (k != 26) = true := by simpa using hk26
        by_cases hk27 : k = 27
        · subst hk27
          have HSEH := Lib.hid (HST.out f.d (by unfold partC; rw [if_neg (show c ≠ 105 from HN105.out), if_neg (show c ≠ 99 from HN99.out), if_neg (show c ≠ 97 from HN97.out), if_pos hce, if_neg (by rw [HK.out]; decide)]; rfl))
          clear hce HST HSN HZ'
          have HSUM2 : Hid (L.length + f.d.length = q + nd) := by show _ = _; rw [HL.out.1, HND.out]
          have HD6 : Hid (Byts wr (.slice da nd dc) f.d) := byts_kept HP.out.fv.d HP.out.m
          go_wp2_with (first
            | ((with_reducible refine wpList_append_bx ?_ (.tmp 102) (.tmp 104) ?_ (.slice ap q cp) L w.heap.size (q + nd) ?_ HP.out.o (.slice da nd dc) f.d ?_ HD6.out (L ++ f.d) rfl HSUM2.out ?_ HP.out.m.size ?_); (· exact rfl); (· exact rfl); (· exact rfl); (· exact rfl); (· omega); intro ap7 cp7 w7 hA hat; have HP7 := Lib.hid (HP.out.app hA hat); clear hA hat)
            | fail)
          go_roundw
          case rel => exact ⟨i + 1, q + nd, _, _, _, by go_num, rfl, by omega, by omega, HP7, ⟨by rw [List.length_append]; exact HSUM2.out, HSEH.out.symm⟩⟩
          case measure => simp [intOf]; omega
        have hkb27 : (k == 27) = false := by simpa using hk27
        have hkc27 : (k != 27) = true := by simpa using hk27
        have HKD : Hid (f.k ≠ 26 ∧ f.k ≠ 27) := by show _ ∧ _; rw [HK.out]; exact ⟨hk26, hk27⟩
        clear hk26 hk27
        have HSEH := Lib.hid (HST.out (LZ ++ f.d) (by unfold partC; rw [if_neg (show c ≠ 105 from HN105.out), if_neg (show c ≠ 99 from HN99.out), if_neg (show c ≠ 97 from HN97.out), if_pos hce, if_pos HKD.out, HND.out, HLZ.out]))
        clear hce HST HSN HZ'
        have HSUM1 : Hid (L.length + LZ.length = q + nz) := by show _ = _; rw [HL.out.1, HNZ.out]
        have HSUM2 : Hid ((L ++ LZ).length + f.d.length = q + nz + nd) := by show _ = _; rw [List.length_append, HL.out.1, HNZ.out, HND.out]
        have hz8 := HLZN.out
        go_wp2_with (first
          | ((with_reducible refine wpList_append_bx ?_ (.tmp 99) (.tmp 100) ?_ (.slice ap q cp) L w.heap.size (q + nz) ?_ HP.out.o (.slice az nz cz) LZ ?_ HP.out.z (L ++ LZ) rfl HSUM1.out ?_ HP.out.m.size ?_); (· exact rfl); (· exact rfl); (· exact rfl); (· exact rfl); (· omega); intro ap6 cp6 w6 hA hat; have HP6 := Lib.hid (HP.out.app hA hat); obtain ⟨e0, e1, e2, e3, e4, e5, e6, e7⟩ := HP6.out.a.cells; have HD6 : Hid (Byts w6 (.slice da nd dc) f.d) := byts_kept HP6.out.fv.d HP6.out.m; clear hA hat)
          | ((with_reducible refine wpList_append_bx ?_ (.tmp 102) (.tmp 104) ?_ (.slice ap6 (q + nz) cp6) (L ++ LZ) w.heap.size (q + nz + nd) ?_ HP6.out.o (.slice da nd dc) f.d ?_ HD6.out ((L ++ LZ) ++ f.d) rfl HSUM2.out ?_ HP6.out.m.size ?_); (· exact rfl); (· exact rfl); (· exact rfl); (· exact rfl); (· omega); intro ap7 cp7 w7 hA hat; have HP7 := Lib.hid (HP6.out.app hA hat); clear hA hat)
          | fail)
        go_roundw
        case rel => exact ⟨i + 1, q + nz + nd, _, _, _, by go_num, rfl, by omega, by omega, HP7, ⟨by rw [List.length_append]; exact HSUM2.out, by rw [List.append_assoc]; exact HSEH.out.symm⟩⟩
        case measure => simp [intOf]; omega
      have HN100 : Hid (c ≠ 100) := HSN.out 100 (by decide) h100
      have b100 : (z == 100) = false := by simpa using h100
      clear h100
      have HSEH := Lib.hid (HST.out [] (by unfold partC; rw [if_neg (show c ≠ 105 from HN105.out), if_neg (show c ≠ 99 from HN99.out), if_neg (show c ≠ 97 from HN97.out), if_neg (show c ≠ 100 from HN100.out)]))
      clear HST HSN HZ'
      go_wp2_with fail
      go_roundw
      case rel => exact ⟨i + 1, q, _, _, _, by go_num, rfl, by omega, by omega, HP, ⟨HL.out.1, by have := HSEH.out; rw [List.append_nil] at this; exact this.symm⟩⟩
      case measure => simp [intOf]; omega
    · have hin' : i = n := by omega
      have HRE : Hid (R = L) := by
        show _ = _
        rw [HRR.out, HPA.out, HL.out.2, List.take_of_length_le (by have := HN.out; omega), HSW.out]
      go_wp2_with fail
      go_ret
      rw [HRE.out]
      exact ⟨_, rfl, HP.out.o, HP.out.m⟩
set_option maxHeartbeats 16000000 in
set_option maxRecDepth 10000 in
theorem refput_d1 {w : World} {f : Fr} {vd vr : Value} (hv : FrV w f vd vr) (hrl : (f.rs.length : Int) ≤ 100000) (hro : RngOk f) (hr : rightF f = true) {k : Int} (hk : f.k = k) (h0 : k ≠ 0) (h2 : k ≠ 2) (h24 : k ≠ 24) (h8 : k ≠ 8) (hfl : f.fl = true) :
    Calls Tryd.prog 16 #[frV f vd vr] w fun e w' => ∃ v, e = .returned v ∧ OwnB w' w.heap.size v (fputL f) ∧ Mod (fun _ => False) w w' := by
  obtain ⟨R, hR⟩ : ∃ R, R = fputL f := ⟨_, rfl⟩
  rw [← hR]
  have HRR := Lib.hid hR
  have HV := Lib.hid hv
  have HF0 := Lib.hid (FrB.new w f vd vr hv.t)
  have HM0 : Hid (Mod (fun _ => False) w (w.alloc (.cells (frC f vd vr) 27))) := (Mod.refl _ _).alloc _
  obtain ⟨da, dc, rfl, _⟩ := byts_val hv.d
  obtain ⟨ra, rc, rfl, hrc, _⟩ := rg_val hv.r
  have HRT := Lib.hid (fun (X : World) (C : Array Value) (hC : C = frC f (.slice da f.d.length dc) (.slice ra f.rs.length rc)) (h : Mod (fun _ => False) w X) => refright_c hC (hv.kept h) hrl hro)
  have hdl := hv.dl
  obtain ⟨nd, hnd⟩ : ∃ n, f.d.length = n := ⟨_, rfl⟩
  obtain ⟨nr, hnr⟩ : ∃ n, f.rs.length = n := ⟨_, rfl⟩
  have HND := Lib.hid hnd
  have HNR := Lib.hid hnr
  rw [hnd, hnr] at HV HF0 HM0 HRT ⊢
  rw [hnd] at hdl
  rw [hnr] at hrl hrc
  have hrc2 : (nr : Int) ≤ rc := by omega
  obtain ⟨C, hC⟩ : ∃ C, C = frC f (.slice da nd dc) (.slice ra nr rc) := ⟨_, rfl⟩
  have HC := Lib.hid hC
  unfold frV
  rw [← hC] at HM0 ⊢
  have HF1 : Hid (FrB (w.alloc (.cells C 27)) w.heap.size f (.slice da nd dc) (.slice ra nr rc)) := by show FrB _ _ _ _ _; rw [hC]; exact HF0.out
  have HLD : Hid ((Instr.loadAt 27 (.pointer (some ⟨w.heap.size, 0, none⟩))).run Tryd.prog (w.alloc (.cells C 27)) = .ok (.agg C) (w.alloc (.cells C 27))) := by
    have h := blk_loadAt HF1.out
    unfold frV at h
    rwa [← HC.out] at h
  clear HF0 hR hv hro hnd hnr hC hrc
  go_enter Tryd.func16, Tryd.ntmps16
  go_wp2_with (first | ((with_reducible refine wpList_load_v 27 (.tmp 1) ?_ ?_ (.pointer (some ⟨w.heap.size, 0, none⟩)) (.agg C) ?_ HLD.out ?_); (· exact rfl); (· exact rfl); (· exact rfl)) | fail)
  refine (HRT.out _ C HC.out HM0.out).mono ?_
  rintro e w2 ⟨rfl, hM2⟩
  have HM2 := Lib.hid (HM0.out.trans hM2)
  have HF2 := Lib.hid (HF1.out.kept hM2)
  clear hM2 HM0 HF1 HRT
  have HRF := Lib.hid hr
  rw [hr]
  have hnd2 : (nd : Int) ≤ 1200 := by have := (right_len hr).1; have := HND.out; omega
  obtain ⟨c0, c1, c2, c3, c4, c5, c6, c7⟩ := HF2.out.cells
  have HCX := Lib.hid (fun (X : World) (h : Mod (fun _ => False) w2 X) => (HF2.out.kept h).cells)
  have HTG : Hid (tagN f ≤ 255) := tag_le hr
  have hw0 : IntKind.u64.wrap (nd : Int) = nd := IntWalk.u64_in _ (by omega)
  have HPA : Hid (fputL f = UInt8.ofNat (tagN f) :: (whatL k).flatMap (partC f)) := by
    show _ = _
    have := part_all hr (by rw [hk]; exact h0) (by rw [hk]; exact h2) (by rw [hk]; exact h24)
    rwa [hk] at this
  have HW4 : Hid ((whatL k).length ≤ 4) := by
    obtain ⟨m, hm, _⟩ := right_parts hr
    rw [hk] at hm
    exact (what_known hm).2
  have HK := Lib.hid hk
  have HFL := Lib.hid hfl
  have hkr := right_parts hr
  obtain ⟨mk, hmk, -⟩ := hkr
  rw [hk] at hmk
  have hkb : (0 : Int) ≤ k ∧ k ≤ 30 := by rcases kind_cases hmk with h | h | h | h | h | h | h | h | h | h | h | h | h | h | h | h | h | h | h | h <;> omega
  have HTZ : Hid ((tagN f : Int) = k + 1) := by show _ = _; unfold tagN; rw [if_neg (by rw [hk]; exact h8), hk, hfl]; simp; omega
  have hwk : IntKind.u8.wrap (k + 1) = k + 1 := IntWalk.u8_in _ (by omega)
  have hwi : IntKind.i64.wrap (k + 1) = k + 1 := IntWalk.i64_in _ (by omega)
  have b0 : (k == 0) = false := by simpa using h0
  have b2 : (k == 2) = false := by simpa using h2
  have b8 : (k == 8) = false := by simpa using h8
  have b24 : (k == 24) = false := by simpa using h24
  have HK8 : Hid (f.k ≠ 8) := by show _ ≠ _; rw [hk]; exact h8
  have HKQ : Hid (f.fl = true → k ≠ 26 ∧ k ≠ 27) := fun hf => ⟨(fun e => by have := fl_of hr (by rw [hk, e]; decide); rw [this] at hf; cases hf), (fun e => by have := fl_of hr (by rw [hk, e]; decide); rw [this] at hf; cases hf)⟩
  rw [hk] at c0
  rw [hfl] at c5
  clear hk hfl hr hmk h0 h2 h24 h8
  have c6a := (HCX.out _ ((Mod.refl (fun _ => False) w2).alloc (.cells #[.int .u8 (k + 1)] 5))).2.2.2.2.2.2.1
  go_wp2_with fail
  have HP2 := Lib.hid (PtS.made (n := tagN f) HF2.out HV.out HM2.out (z := k + 1) HTZ.out HTG.out)
  clear HF2 HTZ HCX c6a c0 c1 c2 c3 c4 c5 c6 c7
  refine (refput_any nd _).mono ?_
  rintro e w3 ⟨v3, rfl, ho3, hM3⟩
  have HM3 : Hid (Mod (fun _ => False) w2 w3) := ((Mod.refl _ _).alloc _).trans hM3
  have HP3 := Lib.hid (HP2.out.setz hM3 ho3)
  obtain ⟨az, cz, rfl, _⟩ := byts_val ho3.byts
  obtain ⟨c0, c1, c2, c3, c4, c5, c6, c7⟩ := HP3.out.a.cells
  obtain ⟨LZ, hLZ⟩ : ∃ x, x = putL nd := ⟨_, rfl⟩
  rw [← hLZ] at HP3 ⊢
  have HLZ := Lib.hid hLZ
  have HLZN : Hid ((LZ.length : Int) ≤ 8) := by show _ ≤ _; rw [hLZ]; have := putL_len nd; omega
  obtain ⟨nz, hnz⟩ : ∃ x, LZ.length = x := ⟨_, rfl⟩
  rw [hnz] at HP3 HLZN ⊢
  have HNZ := Lib.hid hnz
  clear hM3 ho3 HP2 hLZ hnz
  generalize w2.heap.size = gt at *
  rw [HK.out] at c0
  rw [HFL.out] at c5
  go_wp2_with fail
  refine (what_any _ k).mono ?_
  rintro e w4 ⟨rfl, rfl⟩
  unfold strV
  obtain ⟨s1, hs1⟩ : ∃ s, s = ByteArray.mk (whatL k).toArray := ⟨_, rfl⟩
  rw [← hs1]
  obtain ⟨S, hS⟩ : ∃ S, S = whatL k := ⟨_, rfl⟩
  obtain ⟨n, hn⟩ : ∃ n, S.length = n := ⟨_, rfl⟩
  have hsz : s1.size = n := by rw [hs1, ← hn, hS]; simp [ByteArray.size]
  have HIX : Hid (∀ (i : Nat) (c : UInt8) (X : World), S[i]? = some c → (Instr.index 9 (.string s1) (.int .i64 (i : Int))).run Tryd.prog X = .ok (.int .u8 (c.toNat : Int)) X) := by
    rw [hs1, ← hS]
    exact str_at S
  have hn4 : (n : Int) ≤ 4 := by have := HW4.out; rw [← hS, hn] at this; omega
  have HN := Lib.hid hn
  have HSW := Lib.hid hS
  clear hs1 hS hn HW4
  clear c0 c1 c2 c3 c4 c5 c6 c7
  go_wp2_with fail
  go_loopw [4, 9] (fun s4 s9 wr => ∃ (i q : Nat) (ap : Option Addr) (cp : Nat) (L : List UInt8), s9 = .int .i64 i ∧ s4 = .slice ap q cp ∧ i ≤ n ∧ (q : Int) ≤ 1 + 2000 * (i : Int) ∧ Hid (PtS w wr f (.slice da nd dc) (.slice ra nr rc) (.slice ap q cp) L (.slice az nz cz) LZ) ∧ Hid (L.length = q ∧ L = UInt8.ofNat (tagN f) :: (S.take i).flatMap (partC f))) (fun _ s9 _ => n - (intOf s9).toNat)
  case atStart => exact ⟨0, 1, _, _, _, rfl, rfl, Nat.zero_le _, by decide, HP3, ⟨rfl, by simp⟩⟩
  case round =>
    clear HP3
    obtain ⟨i, q, ap, cp, L, rfl, rfl, hi, hq, HP, HL⟩ := hrel
    by_cases hin : (i : Int) < n
    · have hil : i < S.length := by have := HN.out; omega
      have hc : S[i]? = some S[i] := List.getElem?_eq_getElem hil
      generalize S[i] = c at hc
      have hix := fun X => HIX.out i c X hc
      have HC' := Lib.hid hc
      have HZ' : Hid (∀ n : Nat, n < 256 → (c.toNat : Int) = (n : Int) → c = UInt8.ofNat n) := fun n hn h => UInt8.toNat_inj.1 (by rw [UInt8.toNat_ofNat_of_lt' (by show _ < 256; omega)]; omega)
      have HST : Hid (∀ P, partC f c = P → UInt8.ofNat (tagN f) :: (S.take (i + 1)).flatMap (partC f) = L ++ P) := fun P h => by
        rw [take_snoc S i c HC'.out, List.flatMap_append, HL.out.2, ← h]
        simp
      have HSN : Hid (∀ n : Nat, n < 256 → (c.toNat : Int) ≠ (n : Int) → c ≠ UInt8.ofNat n) := fun n hn h e => h (by rw [e, UInt8.toNat_ofNat_of_lt' (by show _ < 256; omega)])
      clear hc hil
      generalize (c.toNat : Int) = z at *
      obtain ⟨c0, c1, c2, c3, c4, c5, c6, c7⟩ := HP.out.a.cells
      rw [HK.out] at c0
      rw [HFL.out] at c5
      by_cases h105 : z = 105
      · have hce : c = 105 := HZ'.out 105 (by decide) h105
        have HSE := HST.out (putL f.id) (by unfold partC; rw [if_pos hce])
        have HSEH := Lib.hid HSE
        subst h105
        clear hce HST HSN HZ' HSE
        go_wp2_with fail
        refine (refput_any f.id _).mono ?_
        rintro e w5 ⟨v5, rfl, ho5, hM5⟩
        have HP5 := Lib.hid (HP.out.kept hM5)
        have HB5 := Lib.hid ho5.byts
        obtain ⟨a5, c5', rfl, _⟩ := byts_val ho5.byts
        obtain ⟨N, hN⟩ : ∃ x, x = putL f.id := ⟨_, rfl⟩
        rw [← hN] at HB5 HSEH ⊢
        obtain ⟨nn, hnn⟩ : ∃ x, N.length = x := ⟨_, rfl⟩
        rw [hnn] at HB5 ⊢
        have hn8 : (nn : Int) ≤ 8 := by rw [← hnn, hN]; have := putL_len f.id; omega
        have HSUM : Hid (L.length + N.length = q + nn) := by show _ = _; rw [HL.out.1, hnn]
        clear hM5 ho5 hN hnn HP c0 c1 c2 c3 c4 c5 c6 c7
        go_wp2_with (first
          | ((with_reducible refine wpList_append_bx ?_ (.tmp 53) (.tmp 56) ?_ (.slice ap q cp) L w.heap.size (q + nn) ?_ HP5.out.o (.slice a5 nn c5') N ?_ HB5.out (L ++ N) rfl HSUM.out ?_ HP5.out.m.size ?_); (· exact rfl); (· exact rfl); (· exact rfl); (· exact rfl); (· omega); intro ap6 cp6 w6 hA hat; have HP6 := Lib.hid (HP5.out.app hA hat); clear hA hat)
          | fail)
        go_roundw
        case rel => exact ⟨i + 1, q + nn, _, _, _, by go_num, rfl, by omega, by omega, HP6, ⟨by rw [List.length_append]; exact HSUM.out, HSEH.out.symm⟩⟩
        case measure => simp [intOf]; omega
      have HN105 : Hid (c ≠ 105) := HSN.out 105 (by decide) h105
      have b105 : (z == 105) = false := by simpa using h105
      clear h105
      by_cases h99 : z = 99
      · have hce : c = 99 := HZ'.out 99 (by decide) h99
        have HSE := HST.out (putL f.c) (by unfold partC; rw [if_neg (show c ≠ 105 from HN105.out), if_pos hce])
        have HSEH := Lib.hid HSE
        subst h99
        clear hce HST HSN HZ' HSE
        go_wp2_with fail
        refine (refput_any f.c _).mono ?_
        rintro e w5 ⟨v5, rfl, ho5, hM5⟩
        have HP5 := Lib.hid (HP.out.kept hM5)
        have HB5 := Lib.hid ho5.byts
        obtain ⟨a5, c5', rfl, _⟩ := byts_val ho5.byts
        obtain ⟨N, hN⟩ : ∃ x, x = putL f.c := ⟨_, rfl⟩
        rw [← hN] at HB5 HSEH ⊢
        obtain ⟨nn, hnn⟩ : ∃ x, N.length = x := ⟨_, rfl⟩
        rw [hnn] at HB5 ⊢
        have hn8 : (nn : Int) ≤ 8 := by rw [← hnn, hN]; have := putL_len f.c; omega
        have HSUM : Hid (L.length + N.length = q + nn) := by show _ = _; rw [HL.out.1, hnn]
        clear hM5 ho5 hN hnn HP c0 c1 c2 c3 c4 c5 c6 c7
        go_wp2_with (first
          | ((with_reducible refine wpList_append_bx ?_ (.tmp 60) (.tmp 63) ?_ (.slice ap q cp) L w.heap.size (q + nn) ?_ HP5.out.o (.slice a5 nn c5') N ?_ HB5.out (L ++ N) rfl HSUM.out ?_ HP5.out.m.size ?_); (· exact rfl); (· exact rfl); (· exact rfl); (· exact rfl); (· omega); intro ap6 cp6 w6 hA hat; have HP6 := Lib.hid (HP5.out.app hA hat); clear hA hat)
          | fail)
        go_roundw
        case rel => exact ⟨i + 1, q + nn, _, _, _, by go_num, rfl, by omega, by omega, HP6, ⟨by rw [List.length_append]; exact HSUM.out, HSEH.out.symm⟩⟩
        case measure => simp [intOf]; omega
      have HN99 : Hid (c ≠ 99) := HSN.out 99 (by decide) h99
      have b99 : (z == 99) = false := by simpa using h99
      clear h99
      by_cases h97 : z = 97
      · have hce : c = 97 := HZ'.out 97 (by decide) h97
        subst h97
        by_cases hk28 : k = 28
        · subst hk28
          have HSEH := Lib.hid (HST.out [] (by unfold partC; rw [if_neg (show c ≠ 105 from HN105.out), if_neg (show c ≠ 99 from HN99.out), if_pos hce, if_pos (.inr ⟨HK.out, HFL.out⟩)]))
          clear hce HST HSN HZ'
          go_wp2_with fail
          go_roundw
          case rel => exact ⟨i + 1, q, _, _, _, by go_num, rfl, by omega, by omega, HP, ⟨HL.out.1, by have := HSEH.out; rw [List.append_nil] at this; exact this.symm⟩⟩
          case measure => simp [intOf]; omega
        · have hkb : (k == 28) = false := by simpa using hk28
          have HK28 : Hid (f.k ≠ 28) := by show _ ≠ _; rw [HK.out]; exact hk28
          clear hk28
          have HSEH := Lib.hid (HST.out (putL f.a) (by unfold partC; rw [if_neg (show c ≠ 105 from HN105.out), if_neg (show c ≠ 99 from HN99.out), if_pos hce, if_neg (fun e => e.elim (fun h => HK8.out h.1) (fun h => HK28.out h.1))]))
          clear hce HST HSN HZ'
          go_wp2_with fail
          refine (refput_any f.a _).mono ?_
          rintro e w5 ⟨v5, rfl, ho5, hM5⟩
          have HP5 := Lib.hid (HP.out.kept hM5)
          have HB5 := Lib.hid ho5.byts
          obtain ⟨a5, c5', rfl, _⟩ := byts_val ho5.byts
          obtain ⟨N, hN⟩ : ∃ x, x = putL f.a := ⟨_, rfl⟩
          rw [← hN] at HB5 HSEH ⊢
          obtain ⟨nn, hnn⟩ : ∃ x, N.length = x := ⟨_, rfl⟩
          rw [hnn] at HB5 ⊢
          have hn8 : (nn : Int) ≤ 8 := by rw [← hnn, hN]; have := putL_len f.a; omega
          have HSUM : Hid (L.length + N.length = q + nn) := by show _ = _; rw [HL.out.1, hnn]
          clear hM5 ho5 hN hnn HP c0 c1 c2 c3 c4 c5 c6 c7
          go_wp2_with (first
            | ((with_reducible refine wpList_append_bx ?_ (.tmp 84) (.tmp 87) ?_ (.slice ap q cp) L w.heap.size (q + nn) ?_ HP5.out.o (.slice a5 nn c5') N ?_ HB5.out (L ++ N) rfl HSUM.out ?_ HP5.out.m.size ?_); (· exact rfl); (· exact rfl); (· exact rfl); (· exact rfl); (· omega); intro ap6 cp6 w6 hA hat; have HP6 := Lib.hid (HP5.out.app hA hat); clear hA hat)
            | fail)
          go_roundw
          case rel => exact ⟨i + 1, q + nn, _, _, _, by go_num, rfl, by omega, by omega, HP6, ⟨by rw [List.length_append]; exact HSUM.out, HSEH.out.symm⟩⟩
          case measure => simp [intOf]; omega
      have HN97 : Hid (c ≠ 97) := HSN.out 97 (by decide) h97
      have b97 : (z == 97) = false := by simpa using h97
      clear h97
      by_cases h100 : z = 100
      · have hce : c = 100 := HZ'.out 100 (by decide) h100
        subst h100
        have hkc26 : (k != 26) = true := by simpa using (HKQ.out HFL.out).1
        have hkc27 : (k != 27) = true := by simpa using (HKQ.out HFL.out).2
        have HKD : Hid (f.k ≠ 26 ∧ f.k ≠ 27) := by show _ ∧ _; rw [HK.out]; exact HKQ.out HFL.out
        have HSEH := Lib.hid (HST.out (LZ ++ f.d) (by unfold partC; rw [if_neg (show c ≠ 105 from HN105.out), if_neg (show c ≠ 99 from HN99.out), if_neg (show c ≠ 97 from HN97.out), if_pos hce, if_pos HKD.out, HND.out, HLZ.out]))
        clear hce HST HSN HZ'
        have HSUM1 : Hid (L.length + LZ.length = q + nz) := by show _ = _; rw [HL.out.1, HNZ.out]
        have HSUM2 : Hid ((L ++ LZ).length + f.d.length = q + nz + nd) := by show _ = _; rw [List.length_append, HL.out.1, HNZ.out, HND.out]
        have hz8 := HLZN.out
        go_wp2_with (first
          | ((with_reducible refine wpList_append_bx ?_ (.tmp 99) (.tmp 100) ?_ (.slice ap q cp) L w.heap.size (q + nz) ?_ HP.out.o (.slice az nz cz) LZ ?_ HP.out.z (L ++ LZ) rfl HSUM1.out ?_ HP.out.m.size ?_); (· exact rfl); (· exact rfl); (· exact rfl); (· exact rfl); (· omega); intro ap6 cp6 w6 hA hat; have HP6 := Lib.hid (HP.out.app hA hat); obtain ⟨e0, e1, e2, e3, e4, e5, e6, e7⟩ := HP6.out.a.cells; have HD6 : Hid (Byts w6 (.slice da nd dc) f.d) := byts_kept HP6.out.fv.d HP6.out.m; clear hA hat)
          | ((with_reducible refine wpList_append_bx ?_ (.tmp 102) (.tmp 104) ?_ (.slice ap6 (q + nz) cp6) (L ++ LZ) w.heap.size (q + nz + nd) ?_ HP6.out.o (.slice da nd dc) f.d ?_ HD6.out ((L ++ LZ) ++ f.d) rfl HSUM2.out ?_ HP6.out.m.size ?_); (· exact rfl); (· exact rfl); (· exact rfl); (· exact rfl); (· omega); intro ap7 cp7 w7 hA hat; have HP7 := Lib.hid (HP6.out.app hA hat); clear hA hat)
          | fail)
        go_roundw
        case rel => exact ⟨i + 1, q + nz + nd, _, _, _, by go_num, rfl, by omega, by omega, HP7, ⟨by rw [List.length_append]; exact HSUM2.out, by rw [List.append_assoc]; exact HSEH.out.symm⟩⟩
        case measure => simp [intOf]; omega
      have HN100 : Hid (c ≠ 100) := HSN.out 100 (by decide) h100
      have b100 : (z == 100) = false := by simpa using h100
      clear h100
      have HSEH := Lib.hid (HST.out [] (by unfold partC; rw [if_neg (show c ≠ 105 from HN105.out), if_neg (show c ≠ 99 from HN99.out), if_neg (show c ≠ 97 from HN97.out), if_neg (show c ≠ 100 from HN100.out)]))
      clear HST HSN HZ'
      go_wp2_with fail
      go_roundw
      case rel => exact ⟨i + 1, q, _, _, _, by go_num, rfl, by omega, by omega, HP, ⟨HL.out.1, by have := HSEH.out; rw [List.append_nil] at this; exact this.symm⟩⟩
      case measure => simp [intOf]; omega
    · have hin' : i = n := by omega
      have HRE : Hid (R = L) := by
        show _ = _
        rw [HRR.out, HPA.out, HL.out.2, List.take_of_length_le (by have := HN.out; omega), HSW.out]
      go_wp2_with fail
      go_ret
      rw [HRE.out]
      exact ⟨_, rfl, HP.out.o, HP.out.m⟩
set_option maxHeartbeats 16000000 in
set_option maxRecDepth 10000 in
theorem refput_e00 {w : World} {f : Fr} {vd vr : Value} (hv : FrV w f vd vr) (hrl : (f.rs.length : Int) ≤ 100000) (hro : RngOk f) (hr : rightF f = true) (hk : f.k = 8) (hfl : f.fl = false) (ha : f.a = 0) :
    Calls Tryd.prog 16 #[frV f vd vr] w fun e w' => ∃ v, e = .returned v ∧ OwnB w' w.heap.size v (fputL f) ∧ Mod (fun _ => False) w w' := by
  obtain ⟨R, hR⟩ : ∃ R, R = fputL f := ⟨_, rfl⟩
  rw [← hR]
  have HRR := Lib.hid hR
  have HV := Lib.hid hv
  have HF0 := Lib.hid (FrB.new w f vd vr hv.t)
  have HM0 : Hid (Mod (fun _ => False) w (w.alloc (.cells (frC f vd vr) 27))) := (Mod.refl _ _).alloc _
  obtain ⟨da, dc, rfl, _⟩ := byts_val hv.d
  obtain ⟨ra, rc, rfl, hrc, _⟩ := rg_val hv.r
  have HRT := Lib.hid (fun (X : World) (C : Array Value) (hC : C = frC f (.slice da f.d.length dc) (.slice ra f.rs.length rc)) (h : Mod (fun _ => False) w X) => refright_c hC (hv.kept h) hrl hro)
  have hdl := hv.dl
  obtain ⟨nd, hnd⟩ : ∃ n, f.d.length = n := ⟨_, rfl⟩
  obtain ⟨nr, hnr⟩ : ∃ n, f.rs.length = n := ⟨_, rfl⟩
  have HND := Lib.hid hnd
  have HNR := Lib.hid hnr
  rw [hnd, hnr] at HV HF0 HM0 HRT ⊢
  rw [hnd] at hdl
  rw [hnr] at hrl hrc
  have hrc2 : (nr : Int) ≤ rc := by omega
  obtain ⟨C, hC⟩ : ∃ C, C = frC f (.slice da nd dc) (.slice ra nr rc) := ⟨_, rfl⟩
  have HC := Lib.hid hC
  unfold frV
  rw [← hC] at HM0 ⊢
  have HF1 : Hid (FrB (w.alloc (.cells C 27)) w.heap.size f (.slice da nd dc) (.slice ra nr rc)) := by show FrB _ _ _ _ _; rw [hC]; exact HF0.out
  have HLD : Hid ((Instr.loadAt 27 (.pointer (some ⟨w.heap.size, 0, none⟩))).run Tryd.prog (w.alloc (.cells C 27)) = .ok (.agg C) (w.alloc (.cells C 27))) := by
    have h := blk_loadAt HF1.out
    unfold frV at h
    rwa [← HC.out] at h
  clear HF0 hR hv hro hnd hnr hC hrc
  go_enter Tryd.func16, Tryd.ntmps16
  go_wp2_with (first | ((with_reducible refine wpList_load_v 27 (.tmp 1) ?_ ?_ (.pointer (some ⟨w.heap.size, 0, none⟩)) (.agg C) ?_ HLD.out ?_); (· exact rfl); (· exact rfl); (· exact rfl)) | fail)
  refine (HRT.out _ C HC.out HM0.out).mono ?_
  rintro e w2 ⟨rfl, hM2⟩
  have HM2 := Lib.hid (HM0.out.trans hM2)
  have HF2 := Lib.hid (HF1.out.kept hM2)
  clear hM2 HM0 HF1 HRT
  have HRF := Lib.hid hr
  rw [hr]
  have hnd2 : (nd : Int) ≤ 1200 := by have := (right_len hr).1; have := HND.out; omega
  obtain ⟨c0, c1, c2, c3, c4, c5, c6, c7⟩ := HF2.out.cells
  have HCX := Lib.hid (fun (X : World) (h : Mod (fun _ => False) w2 X) => (HF2.out.kept h).cells)
  have HTG : Hid (tagN f ≤ 255) := tag_le hr
  have hw0 : IntKind.u64.wrap (nd : Int) = nd := IntWalk.u64_in _ (by omega)
  have HPA : Hid (fputL f = UInt8.ofNat (tagN f) :: (whatL 8).flatMap (partC f)) := by
    show _ = _
    have := part_all hr (by rw [hk]; decide) (by rw [hk]; decide) (by rw [hk]; decide)
    rwa [hk] at this
  have HW4 : Hid ((whatL 8).length ≤ 4) := by
    obtain ⟨m, hm, _⟩ := right_parts hr
    rw [hk] at hm
    exact (what_known hm).2
  have HK := Lib.hid hk
  have HFL := Lib.hid hfl
  have HTZ : Hid ((tagN f : Int) = 10) := by show _ = _; unfold tagN; rw [if_pos hk, hfl, if_pos ha]; rfl
  have HAZ := Lib.hid ha
  have HA0 : Hid ((f.a : Int) = 0) := by show _ = _; rw [ha]; rfl
  rw [HA0.out] at c2
  rw [hk] at c0
  rw [hfl] at c5
  clear hk hfl ha hr
  have c6a := (HCX.out _ ((Mod.refl (fun _ => False) w2).alloc (.cells #[.int .u8 (10)] 5))).2.2.2.2.2.2.1
  go_wp2_with fail
  have HP2 := Lib.hid (PtS.made (n := tagN f) HF2.out HV.out HM2.out (z := 10) HTZ.out HTG.out)
  clear HF2 HTZ HCX c6a c0 c1 c2 c3 c4 c5 c6 c7
  refine (refput_any nd _).mono ?_
  rintro e w3 ⟨v3, rfl, ho3, hM3⟩
  have HM3 : Hid (Mod (fun _ => False) w2 w3) := ((Mod.refl _ _).alloc _).trans hM3
  have HP3 := Lib.hid (HP2.out.setz hM3 ho3)
  obtain ⟨az, cz, rfl, _⟩ := byts_val ho3.byts
  obtain ⟨c0, c1, c2, c3, c4, c5, c6, c7⟩ := HP3.out.a.cells
  obtain ⟨LZ, hLZ⟩ : ∃ x, x = putL nd := ⟨_, rfl⟩
  rw [← hLZ] at HP3 ⊢
  have HLZ := Lib.hid hLZ
  have HLZN : Hid ((LZ.length : Int) ≤ 8) := by show _ ≤ _; rw [hLZ]; have := putL_len nd; omega
  obtain ⟨nz, hnz⟩ : ∃ x, LZ.length = x := ⟨_, rfl⟩
  rw [hnz] at HP3 HLZN ⊢
  have HNZ := Lib.hid hnz
  clear hM3 ho3 HP2 hLZ hnz
  generalize w2.heap.size = gt at *
  rw [HK.out] at c0
  rw [HFL.out] at c5
  rw [HA0.out] at c2
  go_wp2_with fail
  refine (what_any _ 8).mono ?_
  rintro e w4 ⟨rfl, rfl⟩
  unfold strV
  obtain ⟨s1, hs1⟩ : ∃ s, s = ByteArray.mk (whatL 8).toArray := ⟨_, rfl⟩
  rw [← hs1]
  obtain ⟨S, hS⟩ : ∃ S, S = whatL 8 := ⟨_, rfl⟩
  obtain ⟨n, hn⟩ : ∃ n, S.length = n := ⟨_, rfl⟩
  have hsz : s1.size = n := by rw [hs1, ← hn, hS]; simp [ByteArray.size]
  have HIX : Hid (∀ (i : Nat) (c : UInt8) (X : World), S[i]? = some c → (Instr.index 9 (.string s1) (.int .i64 (i : Int))).run Tryd.prog X = .ok (.int .u8 (c.toNat : Int)) X) := by
    rw [hs1, ← hS]
    exact str_at S
  have hn4 : (n : Int) ≤ 4 := by have := HW4.out; rw [← hS, hn] at this; omega
  have HN := Lib.hid hn
  have HSW := Lib.hid hS
  clear hs1 hS hn HW4
  clear c0 c1 c2 c3 c4 c5 c6 c7
  go_wp2_with fail
  go_loopw [4, 9] (fun s4 s9 wr => ∃ (i q : Nat) (ap : Option Addr) (cp : Nat) (L : List UInt8), s9 = .int .i64 i ∧ s4 = .slice ap q cp ∧ i ≤ n ∧ (q : Int) ≤ 1 + 2000 * (i : Int) ∧ Hid (PtS w wr f (.slice da nd dc) (.slice ra nr rc) (.slice ap q cp) L (.slice az nz cz) LZ) ∧ Hid (L.length = q ∧ L = UInt8.ofNat (tagN f) :: (S.take i).flatMap (partC f))) (fun _ s9 _ => n - (intOf s9).toNat)
  case atStart => exact ⟨0, 1, _, _, _, rfl, rfl, Nat.zero_le _, by decide, HP3, ⟨rfl, by simp⟩⟩
  case round =>
    clear HP3
    obtain ⟨i, q, ap, cp, L, rfl, rfl, hi, hq, HP, HL⟩ := hrel
    by_cases hin : (i : Int) < n
    · have hil : i < S.length := by have := HN.out; omega
      have hc : S[i]? = some S[i] := List.getElem?_eq_getElem hil
      generalize S[i] = c at hc
      have hix := fun X => HIX.out i c X hc
      have HC' := Lib.hid hc
      have HZ' : Hid (∀ n : Nat, n < 256 → (c.toNat : Int) = (n : Int) → c = UInt8.ofNat n) := fun n hn h => UInt8.toNat_inj.1 (by rw [UInt8.toNat_ofNat_of_lt' (by show _ < 256; omega)]; omega)
      have HST : Hid (∀ P, partC f c = P → UInt8.ofNat (tagN f) :: (S.take (i + 1)).flatMap (partC f) = L ++ P) := fun P h => by
        rw [take_snoc S i c HC'.out, List.flatMap_append, HL.out.2, ← h]
        simp
      have HSN : Hid (∀ n : Nat, n < 256 → (c.toNat : Int) ≠ (n : Int) → c ≠ UInt8.ofNat n) := fun n hn h e => h (by rw [e, UInt8.toNat_ofNat_of_lt' (by show _ < 256; omega)])
      clear hc hil
      generalize (c.toNat : Int) = z at *
      obtain ⟨c0, c1, c2, c3, c4, c5, c6, c7⟩ := HP.out.a.cells
      rw [HFL.out] at c5
      rw [HK.out] at c0
      rw [HA0.out] at c2
      by_cases h105 : z = 105
      · have hce : c = 105 := HZ'.out 105 (by decide) h105
        have HSE := HST.out (putL f.id) (by unfold partC; rw [if_pos hce])
        have HSEH := Lib.hid HSE
        subst h105
        clear hce HST HSN HZ' HSE
        go_wp2_with fail
        refine (refput_any f.id _).mono ?_
        rintro e w5 ⟨v5, rfl, ho5, hM5⟩
        have HP5 := Lib.hid (HP.out.kept hM5)
        have HB5 := Lib.hid ho5.byts
        obtain ⟨a5, c5', rfl, _⟩ := byts_val ho5.byts
        obtain ⟨N, hN⟩ : ∃ x, x = putL f.id := ⟨_, rfl⟩
        rw [← hN] at HB5 HSEH ⊢
        obtain ⟨nn, hnn⟩ : ∃ x, N.length = x := ⟨_, rfl⟩
        rw [hnn] at HB5 ⊢
        have hn8 : (nn : Int) ≤ 8 := by rw [← hnn, hN]; have := putL_len f.id; omega
        have HSUM : Hid (L.length + N.length = q + nn) := by show _ = _; rw [HL.out.1, hnn]
        clear hM5 ho5 hN hnn HP c0 c1 c2 c3 c4 c5 c6 c7
        go_wp2_with (first
          | ((with_reducible refine wpList_append_bx ?_ (.tmp 53) (.tmp 56) ?_ (.slice ap q cp) L w.heap.size (q + nn) ?_ HP5.out.o (.slice a5 nn c5') N ?_ HB5.out (L ++ N) rfl HSUM.out ?_ HP5.out.m.size ?_); (· exact rfl); (· exact rfl); (· exact rfl); (· exact rfl); (· omega); intro ap6 cp6 w6 hA hat; have HP6 := Lib.hid (HP5.out.app hA hat); clear hA hat)
          | fail)
        go_roundw
        case rel => exact ⟨i + 1, q + nn, _, _, _, by go_num, rfl, by omega, by omega, HP6, ⟨by rw [List.length_append]; exact HSUM.out, HSEH.out.symm⟩⟩
        case measure => simp [intOf]; omega
      have HN105 : Hid (c ≠ 105) := HSN.out 105 (by decide) h105
      have b105 : (z == 105) = false := by simpa using h105
      clear h105
      by_cases h99 : z = 99
      · have hce : c = 99 := HZ'.out 99 (by decide) h99
        have HSE := HST.out (putL f.c) (by unfold partC; rw [if_neg (show c ≠ 105 from HN105.out), if_pos hce])
        have HSEH := Lib.hid HSE
        subst h99
        clear hce HST HSN HZ' HSE
        go_wp2_with fail
        refine (refput_any f.c _).mono ?_
        rintro e w5 ⟨v5, rfl, ho5, hM5⟩
        have HP5 := Lib.hid (HP.out.kept hM5)
        have HB5 := Lib.hid ho5.byts
        obtain ⟨a5, c5', rfl, _⟩ := byts_val ho5.byts
        obtain ⟨N, hN⟩ : ∃ x, x = putL f.c := ⟨_, rfl⟩
        rw [← hN] at HB5 HSEH ⊢
        obtain ⟨nn, hnn⟩ : ∃ x, N.length = x := ⟨_, rfl⟩
        rw [hnn] at HB5 ⊢
        have hn8 : (nn : Int) ≤ 8 := by rw [← hnn, hN]; have := putL_len f.c; omega
        have HSUM : Hid (L.length + N.length = q + nn) := by show _ = _; rw [HL.out.1, hnn]
        clear hM5 ho5 hN hnn HP c0 c1 c2 c3 c4 c5 c6 c7
        go_wp2_with (first
          | ((with_reducible refine wpList_append_bx ?_ (.tmp 60) (.tmp 63) ?_ (.slice ap q cp) L w.heap.size (q + nn) ?_ HP5.out.o (.slice a5 nn c5') N ?_ HB5.out (L ++ N) rfl HSUM.out ?_ HP5.out.m.size ?_); (· exact rfl); (· exact rfl); (· exact rfl); (· exact rfl); (· omega); intro ap6 cp6 w6 hA hat; have HP6 := Lib.hid (HP5.out.app hA hat); clear hA hat)
          | fail)
        go_roundw
        case rel => exact ⟨i + 1, q + nn, _, _, _, by go_num, rfl, by omega, by omega, HP6, ⟨by rw [List.length_append]; exact HSUM.out, HSEH.out.symm⟩⟩
        case measure => simp [intOf]; omega
      have HN99 : Hid (c ≠ 99) := HSN.out 99 (by decide) h99
      have b99 : (z == 99) = false := by simpa using h99
      clear h99
      by_cases h97 : z = 97
      · have hce : c = 97 := HZ'.out 97 (by decide) h97
        subst h97
        have HSEH := Lib.hid (HST.out [] (by unfold partC; rw [if_neg (show c ≠ 105 from HN105.out), if_neg (show c ≠ 99 from HN99.out), if_pos hce, if_pos (.inl ⟨HK.out, HAZ.out⟩)]))
        clear hce HST HSN HZ'
        go_wp2_with fail
        go_roundw
        case rel => exact ⟨i + 1, q, _, _, _, by go_num, rfl, by omega, by omega, HP, ⟨HL.out.1, by have := HSEH.out; rw [List.append_nil] at this; exact this.symm⟩⟩
        case measure => simp [intOf]; omega
      have HN97 : Hid (c ≠ 97) := HSN.out 97 (by decide) h97
      have b97 : (z == 97) = false := by simpa using h97
      clear h97
      by_cases h100 : z = 100
      · have hce : c = 100 := HZ'.out 100 (by decide) h100
        subst h100
        have HSEH := Lib.hid (HST.out (LZ ++ f.d) (by unfold partC; rw [if_neg (show c ≠ 105 from HN105.out), if_neg (show c ≠ 99 from HN99.out), if_neg (show c ≠ 97 from HN97.out), if_pos hce, if_pos (by rw [HK.out]; decide), HND.out, HLZ.out]))
        clear hce HST HSN HZ'
        have HSUM1 : Hid (L.length + LZ.length = q + nz) := by show _ = _; rw [HL.out.1, HNZ.out]
        have HSUM2 : Hid ((L ++ LZ).length + f.d.length = q + nz + nd) := by show _ = _; rw [List.length_append, HL.out.1, HNZ.out, HND.out]
        have hz8 := HLZN.out
        go_wp2_with (first
          | ((with_reducible refine wpList_append_bx ?_ (.tmp 99) (.tmp 100) ?_ (.slice ap q cp) L w.heap.size (q + nz) ?_ HP.out.o (.slice az nz cz) LZ ?_ HP.out.z (L ++ LZ) rfl HSUM1.out ?_ HP.out.m.size ?_); (· exact rfl); (· exact rfl); (· exact rfl); (· exact rfl); (· omega); intro ap6 cp6 w6 hA hat; have HP6 := Lib.hid (HP.out.app hA hat); obtain ⟨e0, e1, e2, e3, e4, e5, e6, e7⟩ := HP6.out.a.cells; have HD6 : Hid (Byts w6 (.slice da nd dc) f.d) := byts_kept HP6.out.fv.d HP6.out.m; clear hA hat)
          | ((with_reducible refine wpList_append_bx ?_ (.tmp 102) (.tmp 104) ?_ (.slice ap6 (q + nz) cp6) (L ++ LZ) w.heap.size (q + nz + nd) ?_ HP6.out.o (.slice da nd dc) f.d ?_ HD6.out ((L ++ LZ) ++ f.d) rfl HSUM2.out ?_ HP6.out.m.size ?_); (· exact rfl); (· exact rfl); (· exact rfl); (· exact rfl); (· omega); intro ap7 cp7 w7 hA hat; have HP7 := Lib.hid (HP6.out.app hA hat); clear hA hat)
          | fail)
        go_roundw
        case rel => exact ⟨i + 1, q + nz + nd, _, _, _, by go_num, rfl, by omega, by omega, HP7, ⟨by rw [List.length_append]; exact HSUM2.out, by rw [List.append_assoc]; exact HSEH.out.symm⟩⟩
        case measure => simp [intOf]; omega
      have HN100 : Hid (c ≠ 100) := HSN.out 100 (by decide) h100
      have b100 : (z == 100) = false := by simpa using h100
      clear h100
      have HSEH := Lib.hid (HST.out [] (by unfold partC; rw [if_neg (show c ≠ 105 from HN105.out), if_neg (show c ≠ 99 from HN99.out), if_neg (show c ≠ 97 from HN97.out), if_neg (show c ≠ 100 from HN100.out)]))
      clear HST HSN HZ'
      go_wp2_with fail
      go_roundw
      case rel => exact ⟨i + 1, q, _, _, _, by go_num, rfl, by omega, by omega, HP, ⟨HL.out.1, by have := HSEH.out; rw [List.append_nil] at this; exact this.symm⟩⟩
      case measure => simp [intOf]; omega
    · have hin' : i = n := by omega
      have HRE : Hid (R = L) := by
        show _ = _
        rw [HRR.out, HPA.out, HL.out.2, List.take_of_length_le (by have := HN.out; omega), HSW.out]
      go_wp2_with fail
      go_ret
      rw [HRE.out]
      exact ⟨_, rfl, HP.out.o, HP.out.m⟩
set_option maxHeartbeats 16000000 in
set_option maxRecDepth 10000 in
theorem refput_e01 {w : World} {f : Fr} {vd vr : Value} (hv : FrV w f vd vr) (hrl : (f.rs.length : Int) ≤ 100000) (hro : RngOk f) (hr : rightF f = true) (hk : f.k = 8) (hfl : f.fl = false) (ha : f.a ≠ 0) :
    Calls Tryd.prog 16 #[frV f vd vr] w fun e w' => ∃ v, e = .returned v ∧ OwnB w' w.heap.size v (fputL f) ∧ Mod (fun _ => False) w w' := by
  obtain ⟨R, hR⟩ : ∃ R, R = fputL f := ⟨_, rfl⟩
  rw [← hR]
  have HRR := Lib.hid hR
  have HV := Lib.hid hv
  have HF0 := Lib.hid (FrB.new w f vd vr hv.t)
  have HM0 : Hid (Mod (fun _ => False) w (w.alloc (.cells (frC f vd vr) 27))) := (Mod.refl _ _).alloc _
  obtain ⟨da, dc, rfl, _⟩ := byts_val hv.d
  obtain ⟨ra, rc, rfl, hrc, _⟩ := rg_val hv.r
  have HRT := Lib.hid (fun (X : World) (C : Array Value) (hC : C = frC f (.slice da f.d.length dc) (.slice ra f.rs.length rc)) (h : Mod (fun _ => False) w X) => refright_c hC (hv.kept h) hrl hro)
  have hdl := hv.dl
  obtain ⟨nd, hnd⟩ : ∃ n, f.d.length = n := ⟨_, rfl⟩
  obtain ⟨nr, hnr⟩ : ∃ n, f.rs.length = n := ⟨_, rfl⟩
  have HND := Lib.hid hnd
  have HNR := Lib.hid hnr
  rw [hnd, hnr] at HV HF0 HM0 HRT ⊢
  rw [hnd] at hdl
  rw [hnr] at hrl hrc
  have hrc2 : (nr : Int) ≤ rc := by omega
  obtain ⟨C, hC⟩ : ∃ C, C = frC f (.slice da nd dc) (.slice ra nr rc) := ⟨_, rfl⟩
  have HC := Lib.hid hC
  unfold frV
  rw [← hC] at HM0 ⊢
  have HF1 : Hid (FrB (w.alloc (.cells C 27)) w.heap.size f (.slice da nd dc) (.slice ra nr rc)) := by show FrB _ _ _ _ _; rw [hC]; exact HF0.out
  have HLD : Hid ((Instr.loadAt 27 (.pointer (some ⟨w.heap.size, 0, none⟩))).run Tryd.prog (w.alloc (.cells C 27)) = .ok (.agg C) (w.alloc (.cells C 27))) := by
    have h := blk_loadAt HF1.out
    unfold frV at h
    rwa [← HC.out] at h
  clear HF0 hR hv hro hnd hnr hC hrc
  go_enter Tryd.func16, Tryd.ntmps16
  go_wp2_with (first | ((with_reducible refine wpList_load_v 27 (.tmp 1) ?_ ?_ (.pointer (some ⟨w.heap.size, 0, none⟩)) (.agg C) ?_ HLD.out ?_); (· exact rfl); (· exact rfl); (· exact rfl)) | fail)
  refine (HRT.out _ C HC.out HM0.out).mono ?_
  rintro e w2 ⟨rfl, hM2⟩
  have HM2 := Lib.hid (HM0.out.trans hM2)
  have HF2 := Lib.hid (HF1.out.kept hM2)
  clear hM2 HM0 HF1 HRT
  have HRF := Lib.hid hr
  rw [hr]
  have hnd2 : (nd : Int) ≤ 1200 := by have := (right_len hr).1; have := HND.out; omega
  obtain ⟨c0, c1, c2, c3, c4, c5, c6, c7⟩ := HF2.out.cells
  have HCX := Lib.hid (fun (X : World) (h : Mod (fun _ => False) w2 X) => (HF2.out.kept h).cells)
  have HTG : Hid (tagN f ≤ 255) := tag_le hr
  have hw0 : IntKind.u64.wrap (nd : Int) = nd := IntWalk.u64_in _ (by omega)
  have HPA : Hid (fputL f = UInt8.ofNat (tagN f) :: (whatL 8).flatMap (partC f)) := by
    show _ = _
    have := part_all hr (by rw [hk]; decide) (by rw [hk]; decide) (by rw [hk]; decide)
    rwa [hk] at this
  have HW4 : Hid ((whatL 8).length ≤ 4) := by
    obtain ⟨m, hm, _⟩ := right_parts hr
    rw [hk] at hm
    exact (what_known hm).2
  have HK := Lib.hid hk
  have HFL := Lib.hid hfl
  have HTZ : Hid ((tagN f : Int) = 14) := by show _ = _; unfold tagN; rw [if_pos hk, hfl, if_neg ha]; rfl
  have HAZ : Hid (¬ f.a = 0) := ha
  have HAB : Hid (((f.a : Int) == 0) = false) := by show _ = _; simpa using ha
  have hda : decide ((0 : Int) < (f.a : Int)) = true := decide_eq_true (by omega)
  have hdb : decide (0 < f.a) = true := decide_eq_true (by omega)
  rw [hk] at c0
  rw [hfl] at c5
  clear hk hfl ha hr
  have c6a := (HCX.out _ ((Mod.refl (fun _ => False) w2).alloc (.cells #[.int .u8 (14)] 5))).2.2.2.2.2.2.1
  go_wp2_with fail
  have HP2 := Lib.hid (PtS.made (n := tagN f) HF2.out HV.out HM2.out (z := 14) HTZ.out HTG.out)
  clear HF2 HTZ HCX c6a c0 c1 c2 c3 c4 c5 c6 c7
  refine (refput_any nd _).mono ?_
  rintro e w3 ⟨v3, rfl, ho3, hM3⟩
  have HM3 : Hid (Mod (fun _ => False) w2 w3) := ((Mod.refl _ _).alloc _).trans hM3
  have HP3 := Lib.hid (HP2.out.setz hM3 ho3)
  obtain ⟨az, cz, rfl, _⟩ := byts_val ho3.byts
  obtain ⟨c0, c1, c2, c3, c4, c5, c6, c7⟩ := HP3.out.a.cells
  obtain ⟨LZ, hLZ⟩ : ∃ x, x = putL nd := ⟨_, rfl⟩
  rw [← hLZ] at HP3 ⊢
  have HLZ := Lib.hid hLZ
  have HLZN : Hid ((LZ.length : Int) ≤ 8) := by show _ ≤ _; rw [hLZ]; have := putL_len nd; omega
  obtain ⟨nz, hnz⟩ : ∃ x, LZ.length = x := ⟨_, rfl⟩
  rw [hnz] at HP3 HLZN ⊢
  have HNZ := Lib.hid hnz
  clear hM3 ho3 HP2 hLZ hnz
  generalize w2.heap.size = gt at *
  rw [HK.out] at c0
  rw [HFL.out] at c5
  go_wp2_with fail
  refine (what_any _ 8).mono ?_
  rintro e w4 ⟨rfl, rfl⟩
  unfold strV
  obtain ⟨s1, hs1⟩ : ∃ s, s = ByteArray.mk (whatL 8).toArray := ⟨_, rfl⟩
  rw [← hs1]
  obtain ⟨S, hS⟩ : ∃ S, S = whatL 8 := ⟨_, rfl⟩
  obtain ⟨n, hn⟩ : ∃ n, S.length = n := ⟨_, rfl⟩
  have hsz : s1.size = n := by rw [hs1, ← hn, hS]; simp [ByteArray.size]
  have HIX : Hid (∀ (i : Nat) (c : UInt8) (X : World), S[i]? = some c → (Instr.index 9 (.string s1) (.int .i64 (i : Int))).run Tryd.prog X = .ok (.int .u8 (c.toNat : Int)) X) := by
    rw [hs1, ← hS]
    exact str_at S
  have hn4 : (n : Int) ≤ 4 := by have := HW4.out; rw [← hS, hn] at this; omega
  have HN := Lib.hid hn
  have HSW := Lib.hid hS
  clear hs1 hS hn HW4
  clear c0 c1 c2 c3 c4 c5 c6 c7
  go_wp2_with fail
  go_loopw [4, 9] (fun s4 s9 wr => ∃ (i q : Nat) (ap : Option Addr) (cp : Nat) (L : List UInt8), s9 = .int .i64 i ∧ s4 = .slice ap q cp ∧ i ≤ n ∧ (q : Int) ≤ 1 + 2000 * (i : Int) ∧ Hid (PtS w wr f (.slice da nd dc) (.slice ra nr rc) (.slice ap q cp) L (.slice az nz cz) LZ) ∧ Hid (L.length = q ∧ L = UInt8.ofNat (tagN f) :: (S.take i).flatMap (partC f))) (fun _ s9 _ => n - (intOf s9).toNat)
  case atStart => exact ⟨0, 1, _, _, _, rfl, rfl, Nat.zero_le _, by decide, HP3, ⟨rfl, by simp⟩⟩
  case round =>
    clear HP3
    obtain ⟨i, q, ap, cp, L, rfl, rfl, hi, hq, HP, HL⟩ := hrel
    by_cases hin : (i : Int) < n
    · have hil : i < S.length := by have := HN.out; omega
      have hc : S[i]? = some S[i] := List.getElem?_eq_getElem hil
      generalize S[i] = c at hc
      have hix := fun X => HIX.out i c X hc
      have HC' := Lib.hid hc
      have HZ' : Hid (∀ n : Nat, n < 256 → (c.toNat : Int) = (n : Int) → c = UInt8.ofNat n) := fun n hn h => UInt8.toNat_inj.1 (by rw [UInt8.toNat_ofNat_of_lt' (by show _ < 256; omega)]; omega)
      have HST : Hid (∀ P, partC f c = P → UInt8.ofNat (tagN f) :: (S.take (i + 1)).flatMap (partC f) = L ++ P) := fun P h => by
        rw [take_snoc S i c HC'.out, List.flatMap_append, HL.out.2, ← h]
        simp
      have HSN : Hid (∀ n : Nat, n < 256 → (c.toNat : Int) ≠ (n : Int) → c ≠ UInt8.ofNat n) := fun n hn h e => h (by rw [e, UInt8.toNat_ofNat_of_lt' (by show _ < 256; omega)])
      clear hc hil
      generalize (c.toNat : Int) = z at *
      obtain ⟨c0, c1, c2, c3, c4, c5, c6, c7⟩ := HP.out.a.cells
      rw [HFL.out] at c5
      rw [HK.out] at c0
      by_cases h105 : z = 105
      · have hce : c = 105 := HZ'.out 105 (by decide) h105
        have HSE := HST.out (putL f.id) (by unfold partC; rw [if_pos hce])
        have HSEH := Lib.hid HSE
        subst h105
        clear hce HST HSN HZ' HSE
        go_wp2_with fail
        refine (refput_any f.id _).mono ?_
        rintro e w5 ⟨v5, rfl, ho5, hM5⟩
        have HP5 := Lib.hid (HP.out.kept hM5)
        have HB5 := Lib.hid ho5.byts
        obtain ⟨a5, c5', rfl, _⟩ := byts_val ho5.byts
        obtain ⟨N, hN⟩ : ∃ x, x = putL f.id := ⟨_, rfl⟩
        rw [← hN] at HB5 HSEH ⊢
        obtain ⟨nn, hnn⟩ : ∃ x, N.length = x := ⟨_, rfl⟩
        rw [hnn] at HB5 ⊢
        have hn8 : (nn : Int) ≤ 8 := by rw [← hnn, hN]; have := putL_len f.id; omega
        have HSUM : Hid (L.length + N.length = q + nn) := by show _ = _; rw [HL.out.1, hnn]
        clear hM5 ho5 hN hnn HP c0 c1 c2 c3 c4 c5 c6 c7
        go_wp2_with (first
          | ((with_reducible refine wpList_append_bx ?_ (.tmp 53) (.tmp 56) ?_ (.slice ap q cp) L w.heap.size (q + nn) ?_ HP5.out.o (.slice a5 nn c5') N ?_ HB5.out (L ++ N) rfl HSUM.out ?_ HP5.out.m.size ?_); (· exact rfl); (· exact rfl); (· exact rfl); (· exact rfl); (· omega); intro ap6 cp6 w6 hA hat; have HP6 := Lib.hid (HP5.out.app hA hat); clear hA hat)
          | fail)
        go_roundw
        case rel => exact ⟨i + 1, q + nn, _, _, _, by go_num, rfl, by omega, by omega, HP6, ⟨by rw [List.length_append]; exact HSUM.out, HSEH.out.symm⟩⟩
        case measure => simp [intOf]; omega
      have HN105 : Hid (c ≠ 105) := HSN.out 105 (by decide) h105
      have b105 : (z == 105) = false := by simpa using h105
      clear h105
      by_cases h99 : z = 99
      · have hce : c = 99 := HZ'.out 99 (by decide) h99
        have HSE := HST.out (putL f.c) (by unfold partC; rw [if_neg (show c ≠ 105 from HN105.out), if_pos hce])
        have HSEH := Lib.hid HSE
        subst h99
        clear hce HST HSN HZ' HSE
        go_wp2_with fail
        refine (refput_any f.c _).mono ?_
        rintro e w5 ⟨v5, rfl, ho5, hM5⟩
        have HP5 := Lib.hid (HP.out.kept hM5)
        have HB5 := Lib.hid ho5.byts
        obtain ⟨a5, c5', rfl, _⟩ := byts_val ho5.byts
        obtain ⟨N, hN⟩ : ∃ x, x = putL f.c := ⟨_, rfl⟩
        rw [← hN] at HB5 HSEH ⊢
        obtain ⟨nn, hnn⟩ : ∃ x, N.length = x := ⟨_, rfl⟩
        rw [hnn] at HB5 ⊢
        have hn8 : (nn : Int) ≤ 8 := by rw [← hnn, hN]; have := putL_len f.c; omega
        have HSUM : Hid (L.length + N.length = q + nn) := by show _ = _; rw [HL.out.1, hnn]
        clear hM5 ho5 hN hnn HP c0 c1 c2 c3 c4 c5 c6 c7
        go_wp2_with (first
          | ((with_reducible refine wpList_append_bx ?_ (.tmp 60) (.tmp 63) ?_ (.slice ap q cp) L w.heap.size (q + nn) ?_ HP5.out.o (.slice a5 nn c5') N ?_ HB5.out (L ++ N) rfl HSUM.out ?_ HP5.out.m.size ?_); (· exact rfl); (· exact rfl); (· exact rfl); (· exact rfl); (· omega); intro ap6 cp6 w6 hA hat; have HP6 := Lib.hid (HP5.out.app hA hat); clear hA hat)
          | fail)
        go_roundw
        case rel => exact ⟨i + 1, q + nn, _, _, _, by go_num, rfl, by omega, by omega, HP6, ⟨by rw [List.length_append]; exact HSUM.out, HSEH.out.symm⟩⟩
        case measure => simp [intOf]; omega
      have HN99 : Hid (c ≠ 99) := HSN.out 99 (by decide) h99
      have b99 : (z == 99) = false := by simpa using h99
      clear h99
      by_cases h97 : z = 97
      · have hce : c = 97 := HZ'.out 97 (by decide) h97
        subst h97
        have hab : ((f.a : Int) == 0) = false := HAB.out
        have HSEH := Lib.hid (HST.out (putL f.a) (by unfold partC; rw [if_neg (show c ≠ 105 from HN105.out), if_neg (show c ≠ 99 from HN99.out), if_pos hce, if_neg (fun e => e.elim (fun h => HAZ.out h.2) (fun h => by have h := h.1; rw [HK.out] at h; cases h))]))
        clear hce HST HSN HZ'
        go_wp2_with fail
        refine (refput_any f.a _).mono ?_
        rintro e w5 ⟨v5, rfl, ho5, hM5⟩
        have HP5 := Lib.hid (HP.out.kept hM5)
        have HB5 := Lib.hid ho5.byts
        obtain ⟨a5, c5', rfl, _⟩ := byts_val ho5.byts
        obtain ⟨N, hN⟩ : ∃ x, x = putL f.a := ⟨_, rfl⟩
        rw [← hN] at HB5 HSEH ⊢
        obtain ⟨nn, hnn⟩ : ∃ x, N.length = x := ⟨_, rfl⟩
        rw [hnn] at HB5 ⊢
        have hn8 : (nn : Int) ≤ 8 := by rw [← hnn, hN]; have := putL_len f.a; omega
        have HSUM : Hid (L.length + N.length = q + nn) := by show _ = _; rw [HL.out.1, hnn]
        clear hM5 ho5 hN hnn HP c0 c1 c2 c3 c4 c5 c6 c7
        go_wp2_with (first
          | ((with_reducible refine wpList_append_bx ?_ (.tmp 84) (.tmp 87) ?_ (.slice ap q cp) L w.heap.size (q + nn) ?_ HP5.out.o (.slice a5 nn c5') N ?_ HB5.out (L ++ N) rfl HSUM.out ?_ HP5.out.m.size ?_); (· exact rfl); (· exact rfl); (· exact rfl); (· exact rfl); (· omega); intro ap6 cp6 w6 hA hat; have HP6 := Lib.hid (HP5.out.app hA hat); clear hA hat)
          | fail)
        go_roundw
        case rel => exact ⟨i + 1, q + nn, _, _, _, by go_num, rfl, by omega, by omega, HP6, ⟨by rw [List.length_append]; exact HSUM.out, HSEH.out.symm⟩⟩
        case measure => simp [intOf]; omega
      have HN97 : Hid (c ≠ 97) := HSN.out 97 (by decide) h97
      have b97 : (z == 97) = false := by simpa using h97
      clear h97
      by_cases h100 : z = 100
      · have hce : c = 100 := HZ'.out 100 (by decide) h100
        subst h100
        have HSEH := Lib.hid (HST.out (LZ ++ f.d) (by unfold partC; rw [if_neg (show c ≠ 105 from HN105.out), if_neg (show c ≠ 99 from HN99.out), if_neg (show c ≠ 97 from HN97.out), if_pos hce, if_pos (by rw [HK.out]; decide), HND.out, HLZ.out]))
        clear hce HST HSN HZ'
        have HSUM1 : Hid (L.length + LZ.length = q + nz) := by show _ = _; rw [HL.out.1, HNZ.out]
        have HSUM2 : Hid ((L ++ LZ).length + f.d.length = q + nz + nd) := by show _ = _; rw [List.length_append, HL.out.1, HNZ.out, HND.out]
        have hz8 := HLZN.out
        go_wp2_with (first
          | ((with_reducible refine wpList_append_bx ?_ (.tmp 99) (.tmp 100) ?_ (.slice ap q cp) L w.heap.size (q + nz) ?_ HP.out.o (.slice az nz cz) LZ ?_ HP.out.z (L ++ LZ) rfl HSUM1.out ?_ HP.out.m.size ?_); (· exact rfl); (· exact rfl); (· exact rfl); (· exact rfl); (· omega); intro ap6 cp6 w6 hA hat; have HP6 := Lib.hid (HP.out.app hA hat); obtain ⟨e0, e1, e2, e3, e4, e5, e6, e7⟩ := HP6.out.a.cells; have HD6 : Hid (Byts w6 (.slice da nd dc) f.d) := byts_kept HP6.out.fv.d HP6.out.m; clear hA hat)
          | ((with_reducible refine wpList_append_bx ?_ (.tmp 102) (.tmp 104) ?_ (.slice ap6 (q + nz) cp6) (L ++ LZ) w.heap.size (q + nz + nd) ?_ HP6.out.o (.slice da nd dc) f.d ?_ HD6.out ((L ++ LZ) ++ f.d) rfl HSUM2.out ?_ HP6.out.m.size ?_); (· exact rfl); (· exact rfl); (· exact rfl); (· exact rfl); (· omega); intro ap7 cp7 w7 hA hat; have HP7 := Lib.hid (HP6.out.app hA hat); clear hA hat)
          | fail)
        go_roundw
        case rel => exact ⟨i + 1, q + nz + nd, _, _, _, by go_num, rfl, by omega, by omega, HP7, ⟨by rw [List.length_append]; exact HSUM2.out, by rw [List.append_assoc]; exact HSEH.out.symm⟩⟩
        case measure => simp [intOf]; omega
      have HN100 : Hid (c ≠ 100) := HSN.out 100 (by decide) h100
      have b100 : (z == 100) = false := by simpa using h100
      clear h100
      have HSEH := Lib.hid (HST.out [] (by unfold partC; rw [if_neg (show c ≠ 105 from HN105.out), if_neg (show c ≠ 99 from HN99.out), if_neg (show c ≠ 97 from HN97.out), if_neg (show c ≠ 100 from HN100.out)]))
      clear HST HSN HZ'
      go_wp2_with fail
      go_roundw
      case rel => exact ⟨i + 1, q, _, _, _, by go_num, rfl, by omega, by omega, HP, ⟨HL.out.1, by have := HSEH.out; rw [List.append_nil] at this; exact this.symm⟩⟩
      case measure => simp [intOf]; omega
    · have hin' : i = n := by omega
      have HRE : Hid (R = L) := by
        show _ = _
        rw [HRR.out, HPA.out, HL.out.2, List.take_of_length_le (by have := HN.out; omega), HSW.out]
      go_wp2_with fail
      go_ret
      rw [HRE.out]
      exact ⟨_, rfl, HP.out.o, HP.out.m⟩
set_option maxHeartbeats 16000000 in
set_option maxRecDepth 10000 in
theorem refput_e10 {w : World} {f : Fr} {vd vr : Value} (hv : FrV w f vd vr) (hrl : (f.rs.length : Int) ≤ 100000) (hro : RngOk f) (hr : rightF f = true) (hk : f.k = 8) (hfl : f.fl = true) (ha : f.a = 0) :
    Calls Tryd.prog 16 #[frV f vd vr] w fun e w' => ∃ v, e = .returned v ∧ OwnB w' w.heap.size v (fputL f) ∧ Mod (fun _ => False) w w' := by
  obtain ⟨R, hR⟩ : ∃ R, R = fputL f := ⟨_, rfl⟩
  rw [← hR]
  have HRR := Lib.hid hR
  have HV := Lib.hid hv
  have HF0 := Lib.hid (FrB.new w f vd vr hv.t)
  have HM0 : Hid (Mod (fun _ => False) w (w.alloc (.cells (frC f vd vr) 27))) := (Mod.refl _ _).alloc _
  obtain ⟨da, dc, rfl, _⟩ := byts_val hv.d
  obtain ⟨ra, rc, rfl, hrc, _⟩ := rg_val hv.r
  have HRT := Lib.hid (fun (X : World) (C : Array Value) (hC : C = frC f (.slice da f.d.length dc) (.slice ra f.rs.length rc)) (h : Mod (fun _ => False) w X) => refright_c hC (hv.kept h) hrl hro)
  have hdl := hv.dl
  obtain ⟨nd, hnd⟩ : ∃ n, f.d.length = n := ⟨_, rfl⟩
  obtain ⟨nr, hnr⟩ : ∃ n, f.rs.length = n := ⟨_, rfl⟩
  have HND := Lib.hid hnd
  have HNR := Lib.hid hnr
  rw [hnd, hnr] at HV HF0 HM0 HRT ⊢
  rw [hnd] at hdl
  rw [hnr] at hrl hrc
  have hrc2 : (nr : Int) ≤ rc := by omega
  obtain ⟨C, hC⟩ : ∃ C, C = frC f (.slice da nd dc) (.slice ra nr rc) := ⟨_, rfl⟩
  have HC := Lib.hid hC
  unfold frV
  rw [← hC] at HM0 ⊢
  have HF1 : Hid (FrB (w.alloc (.cells C 27)) w.heap.size f (.slice da nd dc) (.slice ra nr rc)) := by show FrB _ _ _ _ _; rw [hC]; exact HF0.out
  have HLD : Hid ((Instr.loadAt 27 (.pointer (some ⟨w.heap.size, 0, none⟩))).run Tryd.prog (w.alloc (.cells C 27)) = .ok (.agg C) (w.alloc (.cells C 27))) := by
    have h := blk_loadAt HF1.out
    unfold frV at h
    rwa [← HC.out] at h
  clear HF0 hR hv hro hnd hnr hC hrc
  go_enter Tryd.func16, Tryd.ntmps16
  go_wp2_with (first | ((with_reducible refine wpList_load_v 27 (.tmp 1) ?_ ?_ (.pointer (some ⟨w.heap.size, 0, none⟩)) (.agg C) ?_ HLD.out ?_); (· exact rfl); (· exact rfl); (· exact rfl)) | fail)
  refine (HRT.out _ C HC.out HM0.out).mono ?_
  rintro e w2 ⟨rfl, hM2⟩
  have HM2 := Lib.hid (HM0.out.trans hM2)
  have HF2 := Lib.hid (HF1.out.kept hM2)
  clear hM2 HM0 HF1 HRT
  have HRF := Lib.hid hr
  rw [hr]
  have hnd2 : (nd : Int) ≤ 1200 := by have := (right_len hr).1; have := HND.out; omega
  obtain ⟨c0, c1, c2, c3, c4, c5, c6, c7⟩ := HF2.out.cells
  have HCX := Lib.hid (fun (X : World) (h : Mod (fun _ => False) w2 X) => (HF2.out.kept h).cells)
  have HTG : Hid (tagN f ≤ 255) := tag_le hr
  have hw0 : IntKind.u64.wrap (nd : Int) = nd := IntWalk.u64_in _ (by omega)
  have HPA : Hid (fputL f = UInt8.ofNat (tagN f) :: (whatL 8).flatMap (partC f)) := by
    show _ = _
    have := part_all hr (by rw [hk]; decide) (by rw [hk]; decide) (by rw [hk]; decide)
    rwa [hk] at this
  have HW4 : Hid ((whatL 8).length ≤ 4) := by
    obtain ⟨m, hm, _⟩ := right_parts hr
    rw [hk] at hm
    exact (what_known hm).2
  have HK := Lib.hid hk
  have HFL := Lib.hid hfl
  have HTZ : Hid ((tagN f : Int) = 11) := by show _ = _; unfold tagN; rw [if_pos hk, hfl, if_pos ha]; rfl
  have HAZ := Lib.hid ha
  have HA0 : Hid ((f.a : Int) = 0) := by show _ = _; rw [ha]; rfl
  rw [HA0.out] at c2
  rw [hk] at c0
  rw [hfl] at c5
  clear hk hfl ha hr
  have c6a := (HCX.out _ ((Mod.refl (fun _ => False) w2).alloc (.cells #[.int .u8 (11)] 5))).2.2.2.2.2.2.1
  go_wp2_with fail
  have HP2 := Lib.hid (PtS.made (n := tagN f) HF2.out HV.out HM2.out (z := 11) HTZ.out HTG.out)
  clear HF2 HTZ HCX c6a c0 c1 c2 c3 c4 c5 c6 c7
  refine (refput_any nd _).mono ?_
  rintro e w3 ⟨v3, rfl, ho3, hM3⟩
  have HM3 : Hid (Mod (fun _ => False) w2 w3) := ((Mod.refl _ _).alloc _).trans hM3
  have HP3 := Lib.hid (HP2.out.setz hM3 ho3)
  obtain ⟨az, cz, rfl, _⟩ := byts_val ho3.byts
  obtain ⟨c0, c1, c2, c3, c4, c5, c6, c7⟩ := HP3.out.a.cells
  obtain ⟨LZ, hLZ⟩ : ∃ x, x = putL nd := ⟨_, rfl⟩
  rw [← hLZ] at HP3 ⊢
  have HLZ := Lib.hid hLZ
  have HLZN : Hid ((LZ.length : Int) ≤ 8) := by show _ ≤ _; rw [hLZ]; have := putL_len nd; omega
  obtain ⟨nz, hnz⟩ : ∃ x, LZ.length = x := ⟨_, rfl⟩
  rw [hnz] at HP3 HLZN ⊢
  have HNZ := Lib.hid hnz
  clear hM3 ho3 HP2 hLZ hnz
  generalize w2.heap.size = gt at *
  rw [HK.out] at c0
  rw [HFL.out] at c5
  rw [HA0.out] at c2
  go_wp2_with fail
  refine (what_any _ 8).mono ?_
  rintro e w4 ⟨rfl, rfl⟩
  unfold strV
  obtain ⟨s1, hs1⟩ : ∃ s, s = ByteArray.mk (whatL 8).toArray := ⟨_, rfl⟩
  rw [← hs1]
  obtain ⟨S, hS⟩ : ∃ S, S = whatL 8 := ⟨_, rfl⟩
  obtain ⟨n, hn⟩ : ∃ n, S.length = n := ⟨_, rfl⟩
  have hsz : s1.size = n := by rw [hs1, ← hn, hS]; simp [ByteArray.size]
  have HIX : Hid (∀ (i : Nat) (c : UInt8) (X : World), S[i]? = some c → (Instr.index 9 (.string s1) (.int .i64 (i : Int))).run Tryd.prog X = .ok (.int .u8 (c.toNat : Int)) X) := by
    rw [hs1, ← hS]
    exact str_at S
  have hn4 : (n : Int) ≤ 4 := by have := HW4.out; rw [← hS, hn] at this; omega
  have HN := Lib.hid hn
  have HSW := Lib.hid hS
  clear hs1 hS hn HW4
  clear c0 c1 c2 c3 c4 c5 c6 c7
  go_wp2_with fail
  go_loopw [4, 9] (fun s4 s9 wr => ∃ (i q : Nat) (ap : Option Addr) (cp : Nat) (L : List UInt8), s9 = .int .i64 i ∧ s4 = .slice ap q cp ∧ i ≤ n ∧ (q : Int) ≤ 1 + 2000 * (i : Int) ∧ Hid (PtS w wr f (.slice da nd dc) (.slice ra nr rc) (.slice ap q cp) L (.slice az nz cz) LZ) ∧ Hid (L.length = q ∧ L = UInt8.ofNat (tagN f) :: (S.take i).flatMap (partC f))) (fun _ s9 _ => n - (intOf s9).toNat)
  case atStart => exact ⟨0, 1, _, _, _, rfl, rfl, Nat.zero_le _, by decide, HP3, ⟨rfl, by simp⟩⟩
  case round =>
    clear HP3
    obtain ⟨i, q, ap, cp, L, rfl, rfl, hi, hq, HP, HL⟩ := hrel
    by_cases hin : (i : Int) < n
    · have hil : i < S.length := by have := HN.out; omega
      have hc : S[i]? = some S[i] := List.getElem?_eq_getElem hil
      generalize S[i] = c at hc
      have hix := fun X => HIX.out i c X hc
      have HC' := Lib.hid hc
      have HZ' : Hid (∀ n : Nat, n < 256 → (c.toNat : Int) = (n : Int) → c = UInt8.ofNat n) := fun n hn h => UInt8.toNat_inj.1 (by rw [UInt8.toNat_ofNat_of_lt' (by show _ < 256; omega)]; omega)
      have HST : Hid (∀ P, partC f c = P → UInt8.ofNat (tagN f) :: (S.take (i + 1)).flatMap (partC f) = L ++ P) := fun P h => by
        rw [take_snoc S i c HC'.out, List.flatMap_append, HL.out.2, ← h]
        simp
      have HSN : Hid (∀ n : Nat, n < 256 → (c.toNat : Int) ≠ (n : Int) → c ≠ UInt8.ofNat n) := fun n hn h e => h (by rw [e, UInt8.toNat_ofNat_of_lt' (by show _ < 256; omega)])
      clear hc hil
      generalize (c.toNat : Int) = z at *
      obtain ⟨c0, c1, c2, c3, c4, c5, c6, c7⟩ := HP.out.a.cells
      rw [HFL.out] at c5
      rw [HK.out] at c0
      rw [HA0.out] at c2
      by_cases h105 : z = 105
      · have hce : c = 105 := HZ'.out 105 (by decide) h105
        have HSE := HST.out (putL f.id) (by unfold partC; rw [if_pos hce])
        have HSEH := Lib.hid HSE
        subst h105
        clear hce HST HSN HZ' HSE
        go_wp2_with fail
        refine (refput_any f.id _).mono ?_
        rintro e w5 ⟨v5, rfl, ho5, hM5⟩
        have HP5 := Lib.hid (HP.out.kept hM5)
        have HB5 := Lib.hid ho5.byts
        obtain ⟨a5, c5', rfl, _⟩ := byts_val ho5.byts
        obtain ⟨N, hN⟩ : ∃ x, x = putL f.id := ⟨_, rfl⟩
        rw [← hN] at HB5 HSEH ⊢
        obtain ⟨nn, hnn⟩ : ∃ x, N.length = x := ⟨_, rfl⟩
        rw [hnn] at HB5 ⊢
        have hn8 : (nn : Int) ≤ 8 := by rw [← hnn, hN]; have := putL_len f.id; omega
        have HSUM : Hid (L.length + N.length = q + nn) := by show _ = _; rw [HL.out.1, hnn]
        clear hM5 ho5 hN hnn HP c0 c1 c2 c3 c4 c5 c6 c7
        go_wp2_with (first
          | ((with_reducible refine wpList_append_bx ?_ (.tmp 53) (.tmp 56) ?_ (.slice ap q cp) L w.heap.size (q + nn) ?_ HP5.out.o (.slice a5 nn c5') N ?_ HB5.out (L ++ N) rfl HSUM.out ?_ HP5.out.m.size ?_); (· exact rfl); (· exact rfl); (· exact rfl); (· exact rfl); (· omega); intro ap6 cp6 w6 hA hat; have HP6 := Lib.hid (HP5.out.app hA hat); clear hA hat)
          | fail)
        go_roundw
        case rel => exact ⟨i + 1, q + nn, _, _, _, by go_num, rfl, by omega, by omega, HP6, ⟨by rw [List.length_append]; exact HSUM.out, HSEH.out.symm⟩⟩
        case measure => simp [intOf]; omega
      have HN105 : Hid (c ≠ 105) := HSN.out 105 (by decide) h105
      have b105 : (z == 105) = false := by simpa using h105
      clear h105
      by_cases h99 : z = 99
      · have hce : c = 99 := HZ'.out 99 (by decide) h99
        have HSE := HST.out (putL f.c) (by unfold partC; rw [if_neg (show c ≠ 105 from HN105.out), if_pos hce])
        have HSEH := Lib.hid HSE
        subst h99
        clear hce HST HSN HZ' HSE
        go_wp2_with fail
        refine (refput_any f.c _).mono ?_
        rintro e w5 ⟨v5, rfl, ho5, hM5⟩
        have HP5 := Lib.hid (HP.out.kept hM5)
        have HB5 := Lib.hid ho5.byts
        obtain ⟨a5, c5', rfl, _⟩ := byts_val ho5.byts
        obtain ⟨N, hN⟩ : ∃ x, x = putL f.c := ⟨_, rfl⟩
        rw [← hN] at HB5 HSEH ⊢
        obtain ⟨nn, hnn⟩ : ∃ x, N.length = x := ⟨_, rfl⟩
        rw [hnn] at HB5 ⊢
        have hn8 : (nn : Int) ≤ 8 := by rw [← hnn, hN]; have := putL_len f.c; omega
        have HSUM : Hid (L.length + N.length = q + nn) := by show _ = _; rw [HL.out.1, hnn]
        clear hM5 ho5 hN hnn HP c0 c1 c2 c3 c4 c5 c6 c7
        go_wp2_with (first
          | ((with_reducible refine wpList_append_bx ?_ (.tmp 60) (.tmp 63) ?_ (.slice ap q cp) L w.heap.size (q + nn) ?_ HP5.out.o (.slice a5 nn c5') N ?_ HB5.out (L ++ N) rfl HSUM.out ?_ HP5.out.m.size ?_); (· exact rfl); (· exact rfl); (· exact rfl); (· exact rfl); (· omega); intro ap6 cp6 w6 hA hat; have HP6 := Lib.hid (HP5.out.app hA hat); clear hA hat)
          | fail)
        go_roundw
        case rel => exact ⟨i + 1, q + nn, _, _, _, by go_num, rfl, by omega, by omega, HP6, ⟨by rw [List.length_append]; exact HSUM.out, HSEH.out.symm⟩⟩
        case measure => simp [intOf]; omega
      have HN99 : Hid (c ≠ 99) := HSN.out 99 (by decide) h99
      have b99 : (z == 99) = false := by simpa using h99
      clear h99
      by_cases h97 : z = 97
      · have hce : c = 97 := HZ'.out 97 (by decide) h97
        subst h97
        have HSEH := Lib.hid (HST.out [] (by unfold partC; rw [if_neg (show c ≠ 105 from HN105.out), if_neg (show c ≠ 99 from HN99.out), if_pos hce, if_pos (.inl ⟨HK.out, HAZ.out⟩)]))
        clear hce HST HSN HZ'
        go_wp2_with fail
        go_roundw
        case rel => exact ⟨i + 1, q, _, _, _, by go_num, rfl, by omega, by omega, HP, ⟨HL.out.1, by have := HSEH.out; rw [List.append_nil] at this; exact this.symm⟩⟩
        case measure => simp [intOf]; omega
      have HN97 : Hid (c ≠ 97) := HSN.out 97 (by decide) h97
      have b97 : (z == 97) = false := by simpa using h97
      clear h97
      by_cases h100 : z = 100
      · have hce : c = 100 := HZ'.out 100 (by decide) h100
        subst h100
        have HSEH := Lib.hid (HST.out (LZ ++ f.d) (by unfold partC; rw [if_neg (show c ≠ 105 from HN105.out), if_neg (show c ≠ 99 from HN99.out), if_neg (show c ≠ 97 from HN97.out), if_pos hce, if_pos (by rw [HK.out]; decide), HND.out, HLZ.out]))
        clear hce HST HSN HZ'
        have HSUM1 : Hid (L.length + LZ.length = q + nz) := by show _ = _; rw [HL.out.1, HNZ.out]
        have HSUM2 : Hid ((L ++ LZ).length + f.d.length = q + nz + nd) := by show _ = _; rw [List.length_append, HL.out.1, HNZ.out, HND.out]
        have hz8 := HLZN.out
        go_wp2_with (first
          | ((with_reducible refine wpList_append_bx ?_ (.tmp 99) (.tmp 100) ?_ (.slice ap q cp) L w.heap.size (q + nz) ?_ HP.out.o (.slice az nz cz) LZ ?_ HP.out.z (L ++ LZ) rfl HSUM1.out ?_ HP.out.m.size ?_); (· exact rfl); (· exact rfl); (· exact rfl); (· exact rfl); (· omega); intro ap6 cp6 w6 hA hat; have HP6 := Lib.hid (HP.out.app hA hat); obtain ⟨e0, e1, e2, e3, e4, e5, e6, e7⟩ := HP6.out.a.cells; have HD6 : Hid (Byts w6 (.slice da nd dc) f.d) := byts_kept HP6.out.fv.d HP6.out.m; clear hA hat)
          | ((with_reducible refine wpList_append_bx ?_ (.tmp 102) (.tmp 104) ?_ (.slice ap6 (q + nz) cp6) (L ++ LZ) w.heap.size (q + nz + nd) ?_ HP6.out.o (.slice da nd dc) f.d ?_ HD6.out ((L ++ LZ) ++ f.d) rfl HSUM2.out ?_ HP6.out.m.size ?_); (· exact rfl); (· exact rfl); (· exact rfl); (· exact rfl); (· omega); intro ap7 cp7 w7 hA hat; have HP7 := Lib.hid (HP6.out.app hA hat); clear hA hat)
          | fail)
        go_roundw
        case rel => exact ⟨i + 1, q + nz + nd, _, _, _, by go_num, rfl, by omega, by omega, HP7, ⟨by rw [List.length_append]; exact HSUM2.out, by rw [List.append_assoc]; exact HSEH.out.symm⟩⟩
        case measure => simp [intOf]; omega
      have HN100 : Hid (c ≠ 100) := HSN.out 100 (by decide) h100
      have b100 : (z == 100) = false := by simpa using h100
      clear h100
      have HSEH := Lib.hid (HST.out [] (by unfold partC; rw [if_neg (show c ≠ 105 from HN105.out), if_neg (show c ≠ 99 from HN99.out), if_neg (show c ≠ 97 from HN97.out), if_neg (show c ≠ 100 from HN100.out)]))
      clear HST HSN HZ'
      go_wp2_with fail
      go_roundw
      case rel => exact ⟨i + 1, q, _, _, _, by go_num, rfl, by omega, by omega, HP, ⟨HL.out.1, by have := HSEH.out; rw [List.append_nil] at this; exact this.symm⟩⟩
      case measure => simp [intOf]; omega
    · have hin' : i = n := by omega
      have HRE : Hid (R = L) := by
        show _ = _
        rw [HRR.out, HPA.out, HL.out.2, List.take_of_length_le (by have := HN.out; omega), HSW.out]
      go_wp2_with fail
      go_ret
      rw [HRE.out]
      exact ⟨_, rfl, HP.out.o, HP.out.m⟩
set_option maxHeartbeats 16000000 in
set_option maxRecDepth 10000 in
theorem refput_e11 {w : World} {f : Fr} {vd vr : Value} (hv : FrV w f vd vr) (hrl : (f.rs.length : Int) ≤ 100000) (hro : RngOk f) (hr : rightF f = true) (hk : f.k = 8) (hfl : f.fl = true) (ha : f.a ≠ 0) :
    Calls Tryd.prog 16 #[frV f vd vr] w fun e w' => ∃ v, e = .returned v ∧ OwnB w' w.heap.size v (fputL f) ∧ Mod (fun _ => False) w w' := by
  obtain ⟨R, hR⟩ : ∃ R, R = fputL f := ⟨_, rfl⟩
  rw [← hR]
  have HRR := Lib.hid hR
  have HV := Lib.hid hv
  have HF0 := Lib.hid (FrB.new w f vd vr hv.t)
  have HM0 : Hid (Mod (fun _ => False) w (w.alloc (.cells (frC f vd vr) 27))) := (Mod.refl _ _).alloc _
  obtain ⟨da, dc, rfl, _⟩ := byts_val hv.d
  obtain ⟨ra, rc, rfl, hrc, _⟩ := rg_val hv.r
  have HRT := Lib.hid (fun (X : World) (C : Array Value) (hC : C = frC f (.slice da f.d.length dc) (.slice ra f.rs.length rc)) (h : Mod (fun _ => False) w X) => refright_c hC (hv.kept h) hrl hro)
  have hdl := hv.dl
  obtain ⟨nd, hnd⟩ : ∃ n, f.d.length = n := ⟨_, rfl⟩
  obtain ⟨nr, hnr⟩ : ∃ n, f.rs.length = n := ⟨_, rfl⟩
  have HND := Lib.hid hnd
  have HNR := Lib.hid hnr
  rw [hnd, hnr] at HV HF0 HM0 HRT ⊢
  rw [hnd] at hdl
  rw [hnr] at hrl hrc
  have hrc2 : (nr : Int) ≤ rc := by omega
  obtain ⟨C, hC⟩ : ∃ C, C = frC f (.slice da nd dc) (.slice ra nr rc) := ⟨_, rfl⟩
  have HC := Lib.hid hC
  unfold frV
  rw [← hC] at HM0 ⊢
  have HF1 : Hid (FrB (w.alloc (.cells C 27)) w.heap.size f (.slice da nd dc) (.slice ra nr rc)) := by show FrB _ _ _ _ _; rw [hC]; exact HF0.out
  have HLD : Hid ((Instr.loadAt 27 (.pointer (some ⟨w.heap.size, 0, none⟩))).run Tryd.prog (w.alloc (.cells C 27)) = .ok (.agg C) (w.alloc (.cells C 27))) := by
    have h := blk_loadAt HF1.out
    unfold frV at h
    rwa [← HC.out] at h
  clear HF0 hR hv hro hnd hnr hC hrc
  go_enter Tryd.func16, Tryd.ntmps16
  go_wp2_with (first | ((with_reducible refine wpList_load_v 27 (.tmp 1) ?_ ?_ (.pointer (some ⟨w.heap.size, 0, none⟩)) (.agg C) ?_ HLD.out ?_); (· exact rfl); (· exact rfl); (· exact rfl)) | fail)
  refine (HRT.out _ C HC.out HM0.out).mono ?_
  rintro e w2 ⟨rfl, hM2⟩
  have HM2 := Lib.hid (HM0.out.trans hM2)
  have HF2 := Lib.hid (HF1.out.kept hM2)
  clear hM2 HM0 HF1 HRT
  have HRF := Lib.hid hr
  rw [hr]
  have hnd2 : (nd : Int) ≤ 1200 := by have := (right_len hr).1; have := HND.out; omega
  obtain ⟨c0, c1, c2, c3, c4, c5, c6, c7⟩ := HF2.out.cells
  have HCX := Lib.hid (fun (X : World) (h : Mod (fun _ => False) w2 X) => (HF2.out.kept h).cells)
  have HTG : Hid (tagN f ≤ 255) := tag_le hr
  have hw0 : IntKind.u64.wrap (nd : Int) = nd := IntWalk.u64_in _ (by omega)
  have HPA : Hid (fputL f = UInt8.ofNat (tagN f) :: (whatL 8).flatMap (partC f)) := by
    show _ = _
    have := part_all hr (by rw [hk]; decide) (by rw [hk]; decide) (by rw [hk]; decide)
    rwa [hk] at this
  have HW4 : Hid ((whatL 8).length ≤ 4) := by
    obtain ⟨m, hm, _⟩ := right_parts hr
    rw [hk] at hm
    exact (what_known hm).2
  have HK := Lib.hid hk
  have HFL := Lib.hid hfl
  have HTZ : Hid ((tagN f : Int) = 15) := by show _ = _; unfold tagN; rw [if_pos hk, hfl, if_neg ha]; rfl
  have HAZ : Hid (¬ f.a = 0) := ha
  have HAB : Hid (((f.a : Int) == 0) = false) := by show _ = _; simpa using ha
  have hda : decide ((0 : Int) < (f.a : Int)) = true := decide_eq_true (by omega)
  have hdb : decide (0 < f.a) = true := decide_eq_true (by omega)
  rw [hk] at c0
  rw [hfl] at c5
  clear hk hfl ha hr
  have c6a := (HCX.out _ ((Mod.refl (fun _ => False) w2).alloc (.cells #[.int .u8 (15)] 5))).2.2.2.2.2.2.1
  go_wp2_with fail
  have HP2 := Lib.hid (PtS.made (n := tagN f) HF2.out HV.out HM2.out (z := 15) HTZ.out HTG.out)
  clear HF2 HTZ HCX c6a c0 c1 c2 c3 c4 c5 c6 c7
  refine (refput_any nd _).mono ?_
  rintro e w3 ⟨v3, rfl, ho3, hM3⟩
  have HM3 : Hid (Mod (fun _ => False) w2 w3) := ((Mod.refl _ _).alloc _).trans hM3
  have HP3 := Lib.hid (HP2.out.setz hM3 ho3)
  obtain ⟨az, cz, rfl, _⟩ := byts_val ho3.byts
  obtain ⟨c0, c1, c2, c3, c4, c5, c6, c7⟩ := HP3.out.a.cells
  obtain ⟨LZ, hLZ⟩ : ∃ x, x = putL nd := ⟨_, rfl⟩
  rw [← hLZ] at HP3 ⊢
  have HLZ := Lib.hid hLZ
  have HLZN : Hid ((LZ.length : Int) ≤ 8) := by show _ ≤ _; rw [hLZ]; have := putL_len nd; omega
  obtain ⟨nz, hnz⟩ : ∃ x, LZ.length = x := ⟨_, rfl⟩
  rw [hnz] at HP3 HLZN ⊢
  have HNZ := Lib.hid hnz
  clear hM3 ho3 HP2 hLZ hnz
  generalize w2.heap.size = gt at *
  rw [HK.out] at c0
  rw [HFL.out] at c5
  go_wp2_with fail
  refine (what_any _ 8).mono ?_
  rintro e w4 ⟨rfl, rfl⟩
  unfold strV
  obtain ⟨s1, hs1⟩ : ∃ s, s = ByteArray.mk (whatL 8).toArray := ⟨_, rfl⟩
  rw [← hs1]
  obtain ⟨S, hS⟩ : ∃ S, S = whatL 8 := ⟨_, rfl⟩
  obtain ⟨n, hn⟩ : ∃ n, S.length = n := ⟨_, rfl⟩
  have hsz : s1.size = n := by rw [hs1, ← hn, hS]; simp [ByteArray.size]
  have HIX : Hid (∀ (i : Nat) (c : UInt8) (X : World), S[i]? = some c → (Instr.index 9 (.string s1) (.int .i64 (i : Int))).run Tryd.prog X = .ok (.int .u8 (c.toNat : Int)) X) := by
    rw [hs1, ← hS]
    exact str_at S
  have hn4 : (n : Int) ≤ 4 := by have := HW4.out; rw [← hS, hn] at this; omega
  have HN := Lib.hid hn
  have HSW := Lib.hid hS
  clear hs1 hS hn HW4
  clear c0 c1 c2 c3 c4 c5 c6 c7
  go_wp2_with fail
  go_loopw [4, 9] (fun s4 s9 wr => ∃ (i q : Nat) (ap : Option Addr) (cp : Nat) (L : List UInt8), s9 = .int .i64 i ∧ s4 = .slice ap q cp ∧ i ≤ n ∧ (q : Int) ≤ 1 + 2000 * (i : Int) ∧ Hid (PtS w wr f (.slice da nd dc) (.slice ra nr rc) (.slice ap q cp) L (.slice az nz cz) LZ) ∧ Hid (L.length = q ∧ L = UInt8.ofNat (tagN f) :: (S.take i).flatMap (partC f))) (fun _ s9 _ => n - (intOf s9).toNat)
  case atStart => exact ⟨0, 1, _, _, _, rfl, rfl, Nat.zero_le _, by decide, HP3, ⟨rfl, by simp⟩⟩
  case round =>
    clear HP3
    obtain ⟨i, q, ap, cp, L, rfl, rfl, hi, hq, HP, HL⟩ := hrel
    by_cases hin : (i : Int) < n
    · have hil : i < S.length := by have := HN.out; omega
      have hc : S[i]? = some S[i] := List.getElem?_eq_getElem hil
      generalize S[i] = c at hc
      have hix := fun X => HIX.out i c X hc
      have HC' := Lib.hid hc
      have HZ' : Hid (∀ n : Nat, n < 256 → (c.toNat : Int) = (n : Int) → c = UInt8.ofNat n) := fun n hn h => UInt8.toNat_inj.1 (by rw [UInt8.toNat_ofNat_of_lt' (by show _ < 256; omega)]; omega)
      have HST : Hid (∀ P, partC f c = P → UInt8.ofNat (tagN f) :: (S.take (i + 1)).flatMap (partC f) = L ++ P) := fun P h => by
        rw [take_snoc S i c HC'.out, List.flatMap_append, HL.out.2, ← h]
        simp
      have HSN : Hid (∀ n : Nat, n < 256 → (c.toNat : Int) ≠ (n : Int) → c ≠ UInt8.ofNat n) := fun n hn h e => h (by rw [e, UInt8.toNat_ofNat_of_lt' (by show _ < 256; omega)])
      clear hc hil
      generalize (c.toNat : Int) = z at *
      obtain ⟨c0, c1, c2, c3, c4, c5, c6, c7⟩ := HP.out.a.cells
      rw [HFL.out] at c5
      rw [HK.out] at c0
      by_cases h105 : z = 105
      · have hce : c = 105 := HZ'.out 105 (by decide) h105
        have HSE := HST.out (putL f.id) (by unfold partC; rw [if_pos hce])
        have HSEH := Lib.hid HSE
        subst h105
        clear hce HST HSN HZ' HSE
        go_wp2_with fail
        refine (refput_any f.id _).mono ?_
        rintro e w5 ⟨v5, rfl, ho5, hM5⟩
        have HP5 := Lib.hid (HP.out.kept hM5)
        have HB5 := Lib.hid ho5.byts
        obtain ⟨a5, c5', rfl, _⟩ := byts_val ho5.byts
        obtain ⟨N, hN⟩ : ∃ x, x = putL f.id := ⟨_, rfl⟩
        rw [← hN] at HB5 HSEH ⊢
        obtain ⟨nn, hnn⟩ : ∃ x, N.length = x := ⟨_, rfl⟩
        rw [hnn] at HB5 ⊢
        have hn8 : (nn : Int) ≤ 8 := by rw [← hnn, hN]; have := putL_len f.id; omega
        have HSUM : Hid (L.length + N.length = q + nn) := by show _ = _; rw [HL.out.1, hnn]
        clear hM5 ho5 hN hnn HP c0 c1 c2 c3 c4 c5 c6 c7
        go_wp2_with (first
          | ((with_reducible refine wpList_append_bx ?_ (.tmp 53) (.tmp 56) ?_ (.slice ap q cp) L w.heap.size (q + nn) ?_ HP5.out.o (.slice a5 nn c5') N ?_ HB5.out (L ++ N) rfl HSUM.out ?_ HP5.out.m.size ?_); (· exact rfl); (· exact rfl); (· exact rfl); (· exact rfl); (· omega); intro ap6 cp6 w6 hA hat; have HP6 := Lib.hid (HP5.out.app hA hat); clear hA hat)
          | fail)
        go_roundw
        case rel => exact ⟨i + 1, q + nn, _, _, _, by go_num, rfl, by omega, by omega, HP6, ⟨by rw [List.length_append]; exact HSUM.out, HSEH.out.symm⟩⟩
        case measure => simp [intOf]; omega
      have HN105 : Hid (c ≠ 105) := HSN.out 105 (by decide) h105
      have b105 : (z == 105) = false := by simpa using h105
      clear h105
      by_cases h99 : z = 99
      · have hce : c = 99 := HZ'.out 99 (by decide) h99
        have HSE := HST.out (putL f.c) (by unfold partC; rw [if_neg (show c ≠ 105 from HN105.out), if_pos hce])
        have HSEH := Lib.hid HSE
        subst h99
        clear hce HST HSN HZ' HSE
        go_wp2_with fail
        refine (refput_any f.c _).mono ?_
        rintro e w5 ⟨v5, rfl, ho5, hM5⟩
        have HP5 := Lib.hid (HP.out.kept hM5)
        have HB5 := Lib.hid ho5.byts
        obtain ⟨a5, c5', rfl, _⟩ := byts_val ho5.byts
        obtain ⟨N, hN⟩ : ∃ x, x = putL f.c := ⟨_, rfl⟩
        rw [← hN] at HB5 HSEH ⊢
        obtain ⟨nn, hnn⟩ : ∃ x, N.length = x := ⟨_, rfl⟩
        rw [hnn] at HB5 ⊢
        have hn8 : (nn : Int) ≤ 8 := by rw [← hnn, hN]; have := putL_len f.c; omega
        have HSUM : Hid (L.length + N.length = q + nn) := by show _ = _; rw [HL.out.1, hnn]
        clear hM5 ho5 hN hnn HP c0 c1 c2 c3 c4 c5 c6 c7
        go_wp2_with (first
          | ((with_reducible refine wpList_append_bx ?_ (.tmp 60) (.tmp 63) ?_ (.slice ap q cp) L w.heap.size (q + nn) ?_ HP5.out.o (.slice a5 nn c5') N ?_ HB5.out (L ++ N) rfl HSUM.out ?_ HP5.out.m.size ?_); (· exact rfl); (· exact rfl); (· exact rfl); (· exact rfl); (· omega); intro ap6 cp6 w6 hA hat; have HP6 := Lib.hid (HP5.out.app hA hat); clear hA hat)
          | fail)
        go_roundw
        case rel => exact ⟨i + 1, q + nn, _, _, _, by go_num, rfl, by omega, by omega, HP6, ⟨by rw [List.length_append]; exact HSUM.out, HSEH.out.symm⟩⟩
        case measure => simp [intOf]; omega
      have HN99 : Hid (c ≠ 99) := HSN.out 99 (by decide) h99
      have b99 : (z == 99) = false := by simpa using h99
      clear h99
      by_cases h97 : z = 97
      · have hce : c = 97 := HZ'.out 97 (by decide) h97
        subst h97
        have hab : ((f.a : Int) == 0) = false := HAB.out
        have HSEH := Lib.hid (HST.out (putL f.a) (by unfold partC; rw [if_neg (show c ≠ 105 from HN105.out), if_neg (show c ≠ 99 from HN99.out), if_pos hce, if_neg (fun e => e.elim (fun h => HAZ.out h.2) (fun h => by have h := h.1; rw [HK.out] at h; cases h))]))
        clear hce HST HSN HZ'
        go_wp2_with fail
        refine (refput_any f.a _).mono ?_
        rintro e w5 ⟨v5, rfl, ho5, hM5⟩
        have HP5 := Lib.hid (HP.out.kept hM5)
        have HB5 := Lib.hid ho5.byts
        obtain ⟨a5, c5', rfl, _⟩ := byts_val ho5.byts
        obtain ⟨N, hN⟩ : ∃ x, x = putL f.a := ⟨_, rfl⟩
        rw [← hN] at HB5 HSEH ⊢
        obtain ⟨nn, hnn⟩ : ∃ x, N.length = x := ⟨_, rfl⟩
        rw [hnn] at HB5 ⊢
        have hn8 : (nn : Int) ≤ 8 := by rw [← hnn, hN]; have := putL_len f.a; omega
        have HSUM : Hid (L.length + N.length = q + nn) := by show _ = _; rw [HL.out.1, hnn]
        clear hM5 ho5 hN hnn HP c0 c1 c2 c3 c4 c5 c6 c7
        go_wp2_with (first
          | ((with_reducible refine wpList_append_bx ?_ (.tmp 84) (.tmp 87) ?_ (.slice ap q cp) L w.heap.size (q + nn) ?_ HP5.out.o (.slice a5 nn c5') N ?_ HB5.out (L ++ N) rfl HSUM.out ?_ HP5.out.m.size ?_); (· exact rfl); (· exact rfl); (· exact rfl); (· exact rfl); (· omega); intro ap6 cp6 w6 hA hat; have HP6 := Lib.hid (HP5.out.app hA hat); clear hA hat)
          | fail)
        go_roundw
        case rel => exact ⟨i + 1, q + nn, _, _, _, by go_num, rfl, by omega, by omega, HP6, ⟨by rw [List.length_append]; exact HSUM.out, HSEH.out.symm⟩⟩
        case measure => simp [intOf]; omega
      have HN97 : Hid (c ≠ 97) := HSN.out 97 (by decide) h97
      have b97 : (z == 97) = false := by simpa using h97
      clear h97
      by_cases h100 : z = 100
      · have hce : c = 100 := HZ'.out 100 (by decide) h100
        subst h100
        have HSEH := Lib.hid (HST.out (LZ ++ f.d) (by unfold partC; rw [if_neg (show c ≠ 105 from HN105.out), if_neg (show c ≠ 99 from HN99.out), if_neg (show c ≠ 97 from HN97.out), if_pos hce, if_pos (by rw [HK.out]; decide), HND.out, HLZ.out]))
        clear hce HST HSN HZ'
        have HSUM1 : Hid (L.length + LZ.length = q + nz) := by show _ = _; rw [HL.out.1, HNZ.out]
        have HSUM2 : Hid ((L ++ LZ).length + f.d.length = q + nz + nd) := by show _ = _; rw [List.length_append, HL.out.1, HNZ.out, HND.out]
        have hz8 := HLZN.out
        go_wp2_with (first
          | ((with_reducible refine wpList_append_bx ?_ (.tmp 99) (.tmp 100) ?_ (.slice ap q cp) L w.heap.size (q + nz) ?_ HP.out.o (.slice az nz cz) LZ ?_ HP.out.z (L ++ LZ) rfl HSUM1.out ?_ HP.out.m.size ?_); (· exact rfl); (· exact rfl); (· exact rfl); (· exact rfl); (· omega); intro ap6 cp6 w6 hA hat; have HP6 := Lib.hid (HP.out.app hA hat); obtain ⟨e0, e1, e2, e3, e4, e5, e6, e7⟩ := HP6.out.a.cells; have HD6 : Hid (Byts w6 (.slice da nd dc) f.d) := byts_kept HP6.out.fv.d HP6.out.m; clear hA hat)
          | ((with_reducible refine wpList_append_bx ?_ (.tmp 102) (.tmp 104) ?_ (.slice ap6 (q + nz) cp6) (L ++ LZ) w.heap.size (q + nz + nd) ?_ HP6.out.o (.slice da nd dc) f.d ?_ HD6.out ((L ++ LZ) ++ f.d) rfl HSUM2.out ?_ HP6.out.m.size ?_); (· exact rfl); (· exact rfl); (· exact rfl); (· exact rfl); (· omega); intro ap7 cp7 w7 hA hat; have HP7 := Lib.hid (HP6.out.app hA hat); clear hA hat)
          | fail)
        go_roundw
        case rel => exact ⟨i + 1, q + nz + nd, _, _, _, by go_num, rfl, by omega, by omega, HP7, ⟨by rw [List.length_append]; exact HSUM2.out, by rw [List.append_assoc]; exact HSEH.out.symm⟩⟩
        case measure => simp [intOf]; omega
      have HN100 : Hid (c ≠ 100) := HSN.out 100 (by decide) h100
      have b100 : (z == 100) = false := by simpa using h100
      clear h100
      have HSEH := Lib.hid (HST.out [] (by unfold partC; rw [if_neg (show c ≠ 105 from HN105.out), if_neg (show c ≠ 99 from HN99.out), if_neg (show c ≠ 97 from HN97.out), if_neg (show c ≠ 100 from HN100.out)]))
      clear HST HSN HZ'
      go_wp2_with fail
      go_roundw
      case rel => exact ⟨i + 1, q, _, _, _, by go_num, rfl, by omega, by omega, HP, ⟨HL.out.1, by have := HSEH.out; rw [List.append_nil] at this; exact this.symm⟩⟩
      case measure => simp [intOf]; omega
    · have hin' : i = n := by omega
      have HRE : Hid (R = L) := by
        show _ = _
        rw [HRR.out, HPA.out, HL.out.2, List.take_of_length_le (by have := HN.out; omega), HSW.out]
      go_wp2_with fail
      go_ret
      rw [HRE.out]
      exact ⟨_, rfl, HP.out.o, HP.out.m⟩
end Go.Proofs.YteegonadodmeeaaDoor
