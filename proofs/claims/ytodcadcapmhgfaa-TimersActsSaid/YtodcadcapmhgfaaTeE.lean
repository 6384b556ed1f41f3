/- A timer sinks: the program's. (printed by gentee.py) -/
import Derived.Test.YtodcadcapmhgfaaTeD
import Derived.ScopeJumps
import Derived.WalkMore
import Derived.Deep.DeepCutAuto
namespace Go.Proofs.Ytodcadcapmhgfaa
open Go.RowKit

/-- As 'wp_scope_jumps', the way from the label walked once. -/
theorem wp_scope_jumps1 {P : Program} {Q : Exit → Act → World → Prop} {a : Act} {w : World} {c rest : Code} (l : Nat) (J : Act → World → Prop) (μ : Act → World → Nat) (hf : findLabel c l = some (Code.skip.seq rest))
    (first : (∀ a w, J a w → rest.wp P (Exit.jump l J Q) a w) → c.wp P (Exit.jump l J Q) a w)
    (pass : ∀ a w, J a w → rest.wp P (Exit.jump l (fun a' w' => J a' w' ∧ μ a' w' < μ a w) Q) a w) : (Code.scope c).wp P Q a w :=
  wp_scope_jumps l J μ hf (first (fun a w hJ => wp_mono (pass a w hJ) (fun e a' w' h => by
    cases e with
    | goto l' => exact ⟨h.1, h.2.1⟩
    | normal => exact h
    | exit id => exact h
    | ret => exact h
    | panic ch => exact h
    | outgrown => exact h))) (fun a w hJ => wp_seq (wp_skip (pass a w hJ)))
def DownR (w0 w : World) (B qb : Nat) (v : Value) (mb N : Nat) (h0 : List Tm) (e : Ending) : Prop :=
  ∃ (n : Nat) (h : List Tm) (f : Int × Int → Option Value), e = .returned (.tuple #[]) ∧ HS w0 w B qb v mb n h0 h f ∧ Heap h ∧ n ≤ N
def RowT (w : World) (g : Nat) (h : List Tm) : Prop := ∀ (i : Nat) (t : Tm), h[i]? = some t → w.rangeAt g (i * 3) (tmL t)
theorem OwnT.rows {w : World} {B g n cap : Nat} {h : List Tm} (ho : OwnT w B (.slice (some ⟨g, 0, none⟩) n cap) h) : RowT w g h := by
  intro i t ht
  obtain ⟨g2, cap2, hv2, -, -, hra⟩ := ho.at ht
  simp only [Value.slice.injEq, Option.some.injEq, Addr.mk.injEq, and_true] at hv2
  obtain ⟨rfl, -, -⟩ := hv2
  exact hra
theorem RowT.still {w w' : World} {g : Nat} {h : List Tm} (r : RowT w g h) (hM : Mod (fun _ => False) w w') : RowT w' g h :=
  fun i t ht j u hu => hM.cellAt (r i t ht j u hu) (fun e => e)
theorem exec_tm {X : World} {a : Act} {op : Oper} {x : Operand} {g o : Nat} {t : Tm} (ho : op.op = .load 27 x) (hx : a.eval x = .pointer (some ⟨g, o, none⟩)) (h : X.rangeAt g o (tmL t)) : (execOp a.eval op).run Try.prog X = .ok (.value (.agg (tmA t))) X :=
  exec_load' ho hx (tm_load h)
/-- The lesser child. -/
def LessK (h : List Tm) (i k : Nat) (z : Tm) : Prop := h[k]? = some z ∧ 0 < k ∧ (k - 1) / 2 = i ∧ ∀ j a, 0 < j → (j - 1) / 2 = i → h[j]? = some a → ahd a z = false
theorem less_one {h : List Tm} {i : Nat} {z : Tm} (hz : h[2 * i + 1]? = some z) (hl : h.length ≤ 2 * i + 1 + 1) : LessK h i (2 * i + 1) z := by
  refine ⟨hz, by omega, by omega, fun j a h0 hj ha => ?_⟩
  have hlt := (List.getElem?_eq_some_iff.1 ha).1
  obtain rfl : j = 2 * i + 1 := by omega
  rw [hz] at ha
  cases ha
  exact ahd_irrefl _
theorem less_left {h : List Tm} {i : Nat} {y z : Tm} (hz : h[2 * i + 1]? = some z) (hy : h[2 * i + 1 + 1]? = some y) (hn : ahd y z = false) : LessK h i (2 * i + 1) z := by
  refine ⟨hz, by omega, by omega, fun j a h0 hj ha => ?_⟩
  by_cases he : j = 2 * i + 1
  · subst he
    rw [hz] at ha
    cases ha
    exact ahd_irrefl _
  · obtain rfl : j = 2 * i + 1 + 1 := by omega
    rw [hy] at ha
    cases ha
    exact hn
theorem less_right {h : List Tm} {i : Nat} {y z : Tm} (hz : h[2 * i + 1]? = some z) (hy : h[2 * i + 1 + 1]? = some y) (hn : ahd y z = true) : LessK h i (2 * i + 1 + 1) y := by
  refine ⟨hy, by omega, by omega, fun j a h0 hj ha => ?_⟩
  by_cases he : j = 2 * i + 1
  · subst he
    rw [hz] at ha
    cases ha
    exact ahd_asymm hn
  · obtain rfl : j = 2 * i + 1 + 1 := by omega
    rw [hy] at ha
    cases ha
    exact ahd_irrefl _
set_option maxHeartbeats 4000000 in
set_option maxRecDepth 10000 in
theorem down_any {w : World} {B qb mb n i : Nat} {v : Value} {h : List Tm} {f : Int × Int → Option Value} (q : QM w B qb v mb n h f) (hc : Cons h f) (hi : i < h.length) (hl : h.length ≤ 200) (hx : HeapDn h i) (hn : n + 400 < maxLen) (hk : OkAll h) :
    Calls Try.prog 34 #[.pointer (some ⟨qb, 0, none⟩), .int .i64 i] w fun e w' => DownR w w' B qb v mb (n + 2 * (h.length - i)) h e := by
  have HP : Hid (HS w w B qb v mb n h h f ∧ i < h.length ∧ h.length ≤ 200 ∧ HeapDn h i ∧ n + 400 < maxLen ∧ OkAll h) := ⟨⟨q, .refl _, hc, Mod.refl _ _⟩, hi, hl, hx, hn, hk⟩
  have hv : ∃ g cap, v = .slice (some ⟨g, 0, none⟩) h.length cap ∧ h.length ≤ cap := by
    obtain ⟨g, cap, hv, hcap, hg, -⟩ := q.own.at (List.getElem?_eq_getElem hi)
    exact ⟨g, cap, hv, hcap⟩
  obtain ⟨g, cap, hv, hcap⟩ := hv
  obtain ⟨L, hL⟩ : ∃ L, L = h.length := ⟨_, rfl⟩
  have hl200 : (L : Int) ≤ 200 := by omega
  have hLc : (L : Int) ≤ (cap : Int) := by omega
  rw [← hL] at hv
  have HL : Hid (L = h.length ∧ L ≤ cap) := ⟨hL, by omega⟩
  clear q hc hi hl hx hn hk hL hcap
  subst hv
  go_enter Try.func34, Try.ntmps34
  go_wp2_with fail
  refine wp_scope_jumps1 0 (fun a' wr => ∃ (n1 i1 : Nat) (h1 : List Tm) (f1 : Int × Int → Option Value) (u4 u5 u6 u7 u8 u9 u10 u11 u12 u13 u14 u15 u16 u17 u18 u19 u20 u21 u22 u23 u24 u25 u26 u27 u28 u29 u30 u31 u32 u33 u34 u35 u36 u37 u38 u39 u40 u41 u42 u43 u44 u45 u46 u47 u48 u49 u50 u51 u52 u53 u54 u55 u56 u57 u58 u59 u60 u61 u62 u63 u64 : Value), a' = { tmps := #[.pointer (some ⟨qb, 0, none⟩), .int .i64 (i1 : Int), undef, undef, u4, u5, u6, u7, u8, u9, u10, u11, u12, u13, u14, u15, u16, u17, u18, u19, u20, u21, u22, u23, u24, u25, u26, u27, u28, u29, u30, u31, u32, u33, u34, u35, u36, u37, u38, u39, u40, u41, u42, u43, u44, u45, u46, u47, u48, u49, u50, u51, u52, u53, u54, u55, u56, u57, u58, u59, u60, u61, u62, u63, u64], defers := [] } ∧ Hid (HS w wr B qb (.slice (some ⟨g, 0, none⟩) L cap) mb n1 h h1 f1 ∧ HeapDn h1 i1 ∧ i1 < h1.length ∧ i ≤ i1 ∧ n1 + 2 * (h.length - i1) ≤ n + 2 * (h.length - i))) (fun a' _ => (match a'.tmps.getD 1 undef with | .int _ z => 200 - z.toNat | _ => 0)) rfl ?_ ?_
  · intro hpass
    go_wp2_with fail
    go_step3
    rename_i hK
    exact hK _ _ (hpass _ _ ⟨n, i, h, f, _, _, _, _, _, _, _, _, _, _, _, _, _, _, _, _, _, _, _, _, _, _, _, _, _, _, _, _, _, _, _, _, _, _, _, _, _, _, _, _, _, _, _, _, _, _, _, _, _, _, _, _, _, _, _, _, _, _, _, _, _, rfl, ⟨HP.out.1, HP.out.2.2.2.1, HP.out.2.1, Nat.le_refl _, Nat.le_refl _⟩⟩)
  · rintro a' wr ⟨n1, i1, h1, f1, u4, u5, u6, u7, u8, u9, u10, u11, u12, u13, u14, u15, u16, u17, u18, u19, u20, u21, u22, u23, u24, u25, u26, u27, u28, u29, u30, u31, u32, u33, u34, u35, u36, u37, u38, u39, u40, u41, u42, u43, u44, u45, u46, u47, u48, u49, u50, u51, u52, u53, u54, u55, u56, u57, u58, u59, u60, u61, u62, u63, u64, rfl, HJ⟩
    have HLL : Hid (h1.length = L ∧ OkAll h1) := by
      have e := HJ.out.1.perm.length_eq
      exact ⟨by have := HL.out.1; omega, fun t ht => HP.out.2.2.2.2.2 t (HJ.out.1.perm.mem_iff.1 ht)⟩
    have HQ0 := Lib.hid (HJ.out.1.q.blk.cellAt 0 rfl)
    have z0 : (0 : Int) ≤ (i1 : Int) := by omega
    have z1 : (i1 : Int) < (L : Int) := by have := HLL.out; have := HJ.out; omega
    have y1 := HQ0.out
    by_cases hk : 2 * i1 + 1 < L
    · have hk' : (2 * (i1 : Int) + 1) < (L : Int) := by omega
      obtain ⟨k, hkk⟩ : ∃ k, k = 2 * i1 + 1 := ⟨_, rfl⟩
      have HK := Lib.hid hkk
      go_upto_region 3 with fail
      have ez : 2 * (i1 : Int) + 1 = (k : Int) := by omega
      rw [ez]
      have z2 : (0 : Int) ≤ (k : Int) := by omega
      have z3 : (k : Int) < (L : Int) := by omega
      have z4 : (k : Int) ≤ 200 := by omega
      clear hk' ez hkk
      obtain ⟨x, hx⟩ : ∃ x, h1[i1]? = some x := ⟨_, List.getElem?_eq_getElem (by have := HJ.out; omega)⟩
      obtain ⟨z, hz⟩ : ∃ z, h1[k]? = some z := ⟨_, List.getElem?_eq_getElem (by have := HLL.out.1; omega)⟩
      have HX := Lib.hid (And.intro hx hz)
      clear hx hz
      go_cut [41] (fun s41 wx => ∃ c : Bool, s41 = .bool c ∧ Hid (HS w wx B qb (.slice (some ⟨g, 0, none⟩) L cap) mb n1 h h1 f1 ∧ ∃ kk z, kk = (if c then k + 1 else k) ∧ LessK h1 i1 kk z))
      case first =>
        by_cases hk1 : k + 1 < L
        · have z5 : ((k : Int) + 1) < (L : Int) := by omega
          have z5' : decide (((k : Int) + 1) < (L : Int)) = true := by simp; omega
          have z6 : (0 : Int) ≤ ((k : Int) + 1) := by omega
          have z7 : IntKind.i64.wrap ((k : Int) + 1) = (k : Int) + 1 := IntWalk.i64_in _ (by omega)
          have z8 : ((k : Int) + 1).toNat = k + 1 := by omega
          obtain ⟨y, hy⟩ : ∃ y, h1[k + 1]? = some y := ⟨_, List.getElem?_eq_getElem (by have := HLL.out.1; omega)⟩
          have HY := Lib.hid hy
          have HR := Lib.hid HJ.out.1.q.own.rows
          clear hy hk1
          (try go_frame)
          refine wp_region_held_drew (S := fun X => Mod (fun _ => False) wr X) (by kernel_rfl) (Mod.refl _ _).drew (fun hS => ?_)
          refine' takeH (i := 0) (v := _) (some 15) rfl rfl (by kernel_rfl) (by kernel_rfl) (by kernel_rfl) (fun _ _ _ h => h) (Or.inl ⟨by rfl, fun X hX => ?_⟩) hS ?_
          rotate_left
          · go_simp; exact rfl
          (try go_frame)
          refine' takeH (i := 1) (v := _) (some 16) rfl rfl (by kernel_rfl) (by kernel_rfl) (by kernel_rfl) (fun _ _ _ h => h) (Or.inl ⟨by rfl, fun X hX => ?_⟩) hS ?_
          rotate_left
          · go_simp; exact rfl
          (try go_frame)
          refine' takeH (i := 2) (v := _) (some 17) rfl rfl (by kernel_rfl) (by kernel_rfl) (by kernel_rfl) (fun _ _ _ h => h) (Or.inl ⟨by rfl, fun X hX => ?_⟩) hS ?_
          rotate_left
          · go_simp; exact rfl
          (try go_frame)
          refine' takeH (i := 3) (v := _) (some 18) rfl rfl (by kernel_rfl) (by kernel_rfl) (by kernel_rfl) (fun _ _ _ h => h) (Or.inl ⟨by rfl, fun X hX => ?_⟩) hS ?_
          rotate_left
          · go_simp; exact rfl
          (try go_frame)
          refine' takeH (i := 4) (v := _) (some 19) rfl rfl (by kernel_rfl) (by kernel_rfl) (by kernel_rfl) (fun _ _ _ h => h) (Or.inl ⟨by rfl, fun X hX => ?_⟩) hS ?_
          rotate_left
          · go_simp; exact rfl
          (try go_frame)
          refine' takeH (i := 5) (v := _) (some 20) rfl rfl (by kernel_rfl) (by kernel_rfl) (by kernel_rfl) (fun _ _ _ h => h) (Or.inl ⟨by rfl, fun X hX => ?_⟩) hS ?_
          rotate_left
          · have c := hX.cellAt HQ0.out (fun e => e); go_simp; exact rfl
          (try go_frame)
          refine' takeH (i := 6) (v := _) (some 21) rfl rfl (by kernel_rfl) (by kernel_rfl) (by kernel_rfl) (fun _ _ _ h => h) (Or.inl ⟨by rfl, fun X hX => ?_⟩) hS ?_
          rotate_left
          · go_simp; exact rfl
          (try go_frame)
          refine' takeH (i := 7) (v := _) (some 22) rfl rfl (by kernel_rfl) (by kernel_rfl) (by kernel_rfl) (fun _ _ _ h => h) (Or.inl ⟨by rfl, fun X hX => ?_⟩) hS ?_
          rotate_left
          · go_simp; exact rfl
          (try go_frame)
          refine' takeH (i := 8) (v := _) (some 23) rfl rfl (by kernel_rfl) (by kernel_rfl) (by kernel_rfl) (fun _ _ _ h => h) (Or.inl ⟨by rfl, fun X hX => ?_⟩) hS ?_
          rotate_left
          · go_simp; exact rfl
          (try go_frame)
          refine' takeH (i := 9) (v := _) (some 24) rfl rfl (by kernel_rfl) (by kernel_rfl) (by kernel_rfl) (fun _ _ _ h => h) (Or.inl ⟨by rfl, fun X hX => ?_⟩) hS ?_
          rotate_left
          · go_simp; exact rfl
          (try go_frame)
          refine' takeH (i := 10) (v := _) (some 25) rfl rfl (by kernel_rfl) (by kernel_rfl) (by kernel_rfl) (fun _ _ _ h => h) (Or.inl ⟨by rfl, fun X hX => ?_⟩) hS ?_
          rotate_left
          · go_simp; exact rfl
          (try go_frame)
          refine' takeH (i := 11) (v := _) (some 26) rfl rfl (by kernel_rfl) (by kernel_rfl) (by kernel_rfl) (fun _ _ _ h => h) (Or.inl ⟨by rfl, fun X hX => ?_⟩) hS ?_
          rotate_left
          · go_simp; exact rfl
          (try go_frame)
          refine' takeH (i := 12) (v := _) (some 27) rfl rfl (by kernel_rfl) (by kernel_rfl) (by kernel_rfl) (fun _ _ _ h => h) (Or.inl ⟨by rfl, fun X hX => ?_⟩) hS ?_
          rotate_left
          · have c := hX.cellAt HQ0.out (fun e => e); go_simp; exact rfl
          (try go_frame)
          refine' takeH (i := 13) (v := _) (some 28) rfl rfl (by kernel_rfl) (by kernel_rfl) (by kernel_rfl) (fun _ _ _ h => h) (Or.inl ⟨by rfl, fun X hX => ?_⟩) hS ?_
          rotate_left
          · go_simp; exact rfl
          (try go_frame)
          refine' takeH (i := 14) (v := _) (some 29) rfl rfl (by kernel_rfl) (by kernel_rfl) (by kernel_rfl) (fun _ _ _ h => h) (Or.inl ⟨by rfl, fun X hX => ?_⟩) hS ?_
          rotate_left
          · go_simp; exact rfl
          (try go_frame)
          refine' takeH (i := 15) (v := _) (some 30) rfl rfl (by kernel_rfl) (by kernel_rfl) (by kernel_rfl) (fun _ _ _ h => h) (Or.inl ⟨by rfl, fun X hX => ?_⟩) hS ?_
          rotate_left
          · go_simp; exact rfl
          (try go_frame)
          refine' takeH (i := 16) (v := _) (some 31) rfl rfl (by kernel_rfl) (by kernel_rfl) (by kernel_rfl) (fun _ _ _ h => h) (Or.inl ⟨by rfl, fun X hX => ?_⟩) hS ?_
          rotate_left
          · refine exec_tm (x := .tmp 30) (g := g) (o := (k + 1) * 3) (t := y) ?_ ?_ ?_; exact rfl; exact rfl; exact (fun j u hu => hX.cellAt (HR.out _ _ HY.out j u hu) (fun e => e))
          (try go_frame)
          refine' takeH (i := 17) (v := _) (some 32) rfl rfl (by kernel_rfl) (by kernel_rfl) (by kernel_rfl) (fun _ _ _ h => h) (Or.inl ⟨by rfl, fun X hX => ?_⟩) hS ?_
          rotate_left
          · go_simp; exact rfl
          (try go_frame)
          refine' takeH (i := 18) (v := _) (some 33) rfl rfl (by kernel_rfl) (by kernel_rfl) (by kernel_rfl) (fun _ _ _ h => h) (Or.inl ⟨by rfl, fun X hX => ?_⟩) hS ?_
          rotate_left
          · go_simp; exact rfl
          (try go_frame)
          refine' takeH (i := 19) (v := _) (some 34) rfl rfl (by kernel_rfl) (by kernel_rfl) (by kernel_rfl) (fun _ _ _ h => h) (Or.inl ⟨by rfl, fun X hX => ?_⟩) hS ?_
          rotate_left
          · go_simp; exact rfl
          (try go_frame)
          refine' takeH (i := 20) (v := _) (some 35) rfl rfl (by kernel_rfl) (by kernel_rfl) (by kernel_rfl) (fun _ _ _ h => h) (Or.inl ⟨by rfl, fun X hX => ?_⟩) hS ?_
          rotate_left
          · have c := hX.cellAt HQ0.out (fun e => e); go_simp; exact rfl
          (try go_frame)
          refine' takeH (i := 21) (v := _) (some 36) rfl rfl (by kernel_rfl) (by kernel_rfl) (by kernel_rfl) (fun _ _ _ h => h) (Or.inl ⟨by rfl, fun X hX => ?_⟩) hS ?_
          rotate_left
          · go_simp; exact rfl
          (try go_frame)
          refine' takeH (i := 22) (v := _) (some 37) rfl rfl (by kernel_rfl) (by kernel_rfl) (by kernel_rfl) (fun _ _ _ h => h) (Or.inl ⟨by rfl, fun X hX => ?_⟩) hS ?_
          rotate_left
          · go_simp; exact rfl
          (try go_frame)
          refine' takeH (i := 23) (v := _) (some 38) rfl rfl (by kernel_rfl) (by kernel_rfl) (by kernel_rfl) (fun _ _ _ h => h) (Or.inl ⟨by rfl, fun X hX => ?_⟩) hS ?_
          rotate_left
          · refine exec_tm (x := .tmp 37) (g := g) (o := k * 3) (t := z) ?_ ?_ ?_; exact rfl; exact rfl; exact (fun j u hu => hX.cellAt (HR.out _ _ HX.out.2 j u hu) (fun e => e))
          (try go_frame)
          refine wpAnyH_ready (rs := [24]) (by kernel_rfl) (by simp) ?_
          refine AllReadyH.cons (o := ⟨some 39, _, _, _, _, some (8, true)⟩) rfl (fun K hK => ?_) AllReadyH.nil
          go_simp
          refine (ahead_any y z _).mono ?_
          rintro e w24 ⟨rfl, hM24⟩
          refine hK.out _ _ (hS.trans hM24) (fun hS => ?_)
          clear hK K
          clear hM24
          (try go_frame)
          obtain ⟨c, hc⟩ : ∃ c, c = ahd y z := ⟨_, rfl⟩
          have HC := Lib.hid hc
          clear hc
          have HCZ : Hid (decide (ahdZ y z < 0) = c) := by rw [HC.out]; exact ahdZ_neg y z
          refine takeH (i := 25) (v := .bool c) (some 40) rfl rfl (by kernel_rfl) (by kernel_rfl) (by kernel_rfl) (fun _ _ _ h => h) (Or.inl ⟨by rfl, fun X hX => ?_⟩) hS ?_
          · go_simp; exact HCZ.out
          (try go_frame)
          refine takeH (i := 26) (v := .bool c) (some 41) rfl rfl (by kernel_rfl) (by kernel_rfl) (by kernel_rfl) (fun _ _ _ h => h) (Or.inl ⟨by rfl, fun X hX => ?_⟩) hS ?_
          · go_simp
          (try go_frame)
          refine wpAnyH_done (by kernel_rfl) ?_ _
          have HS2 := Lib.hid (HJ.out.1.still hS)
          clear hS
          go_wp2_with fail
          go_meet
          refine ⟨c, rfl, HS2.out, (if c then k + 1 else k), (if c then y else z), rfl, ?_⟩
          have h1' := HX.out.2
          have h2' := HY.out
          have h3' := HC.out
          rw [HK.out] at h1' h2' ⊢
          cases c
          · exact less_left h1' h2' h3'.symm
          · exact less_right h1' h2' h3'.symm
        · have z5' : decide (((k : Int) + 1) < (L : Int)) = false := by simp; omega
          have z6 : (0 : Int) ≤ ((k : Int) + 1) := by omega
          have z7 : IntKind.i64.wrap ((k : Int) + 1) = (k : Int) + 1 := IntWalk.i64_in _ (by omega)
          have HK1 := Lib.hid hk1
          clear hk1
          (try go_frame)
          refine wp_region_held_drew (S := fun X => Mod (fun _ => False) wr X) (by kernel_rfl) (Mod.refl _ _).drew (fun hS => ?_)
          refine' takeH (i := 0) (v := _) (some 15) rfl rfl (by kernel_rfl) (by kernel_rfl) (by kernel_rfl) (fun _ _ _ h => h) (Or.inl ⟨by rfl, fun X hX => ?_⟩) hS ?_
          rotate_left
          · go_simp; exact rfl
          (try go_frame)
          refine' takeH (i := 1) (v := _) (some 16) rfl rfl (by kernel_rfl) (by kernel_rfl) (by kernel_rfl) (fun _ _ _ h => h) (Or.inl ⟨by rfl, fun X hX => ?_⟩) hS ?_
          rotate_left
          · go_simp; exact rfl
          (try go_frame)
          refine' takeH (i := 2) (v := _) (some 17) rfl rfl (by kernel_rfl) (by kernel_rfl) (by kernel_rfl) (fun _ _ _ h => h) (Or.inl ⟨by rfl, fun X hX => ?_⟩) hS ?_
          rotate_left
          · go_simp; exact rfl
          (try go_frame)
          refine' takeH (i := 3) (v := _) (some 18) rfl rfl (by kernel_rfl) (by kernel_rfl) (by kernel_rfl) (fun _ _ _ h => h) (Or.inl ⟨by rfl, fun X hX => ?_⟩) hS ?_
          rotate_left
          · go_simp; exact rfl
          (try go_frame)
          refine' takeH (i := 4) (v := _) (some 19) rfl rfl (by kernel_rfl) (by kernel_rfl) (by kernel_rfl) (fun _ _ _ h => h) (Or.inl ⟨by rfl, fun X hX => ?_⟩) hS ?_
          rotate_left
          · go_simp; exact rfl
          (try go_frame)
          refine' takeH (i := 5) (v := _) (some 20) rfl rfl (by kernel_rfl) (by kernel_rfl) (by kernel_rfl) (fun _ _ _ h => h) (Or.inl ⟨by rfl, fun X hX => ?_⟩) hS ?_
          rotate_left
          · have c := hX.cellAt HQ0.out (fun e => e); go_simp; exact rfl
          (try go_frame)
          refine' takeH (i := 6) (v := _) (some 21) rfl rfl (by kernel_rfl) (by kernel_rfl) (by kernel_rfl) (fun _ _ _ h => h) (Or.inl ⟨by rfl, fun X hX => ?_⟩) hS ?_
          rotate_left
          · go_simp; exact rfl
          (try go_frame)
          refine' takeH (i := 7) (v := _) (some 22) rfl rfl (by kernel_rfl) (by kernel_rfl) (by kernel_rfl) (fun _ _ _ h => h) (Or.inl ⟨by rfl, fun X hX => ?_⟩) hS ?_
          rotate_left
          · go_simp; exact rfl
          (try go_frame)
          refine' takeH (i := 8) (v := _) (some 23) rfl rfl (by kernel_rfl) (by kernel_rfl) (by kernel_rfl) (fun _ _ _ h => h) (Or.inl ⟨by rfl, fun X hX => ?_⟩) hS ?_
          rotate_left
          · go_simp; exact rfl
          (try go_frame)
          refine takeH (i := 9) (v := undef) (some 24) rfl rfl (by kernel_rfl) (by kernel_rfl) (by kernel_rfl) (fun _ _ _ h => h) (Or.inr ⟨by rfl, rfl⟩) hS ?_
          (try go_frame)
          refine takeH (i := 10) (v := undef) (some 25) rfl rfl (by kernel_rfl) (by kernel_rfl) (by kernel_rfl) (fun _ _ _ h => h) (Or.inr ⟨by rfl, rfl⟩) hS ?_
          (try go_frame)
          refine takeH (i := 11) (v := undef) (some 26) rfl rfl (by kernel_rfl) (by kernel_rfl) (by kernel_rfl) (fun _ _ _ h => h) (Or.inr ⟨by rfl, rfl⟩) hS ?_
          (try go_frame)
          refine takeH (i := 12) (v := undef) (some 27) rfl rfl (by kernel_rfl) (by kernel_rfl) (by kernel_rfl) (fun _ _ _ h => h) (Or.inr ⟨by rfl, rfl⟩) hS ?_
          (try go_frame)
          refine takeH (i := 13) (v := undef) (some 28) rfl rfl (by kernel_rfl) (by kernel_rfl) (by kernel_rfl) (fun _ _ _ h => h) (Or.inr ⟨by rfl, rfl⟩) hS ?_
          (try go_frame)
          refine takeH (i := 14) (v := undef) (some 29) rfl rfl (by kernel_rfl) (by kernel_rfl) (by kernel_rfl) (fun _ _ _ h => h) (Or.inr ⟨by rfl, rfl⟩) hS ?_
          (try go_frame)
          refine takeH (i := 15) (v := undef) (some 30) rfl rfl (by kernel_rfl) (by kernel_rfl) (by kernel_rfl) (fun _ _ _ h => h) (Or.inr ⟨by rfl, rfl⟩) hS ?_
          (try go_frame)
          refine takeH (i := 16) (v := undef) (some 31) rfl rfl (by kernel_rfl) (by kernel_rfl) (by kernel_rfl) (fun _ _ _ h => h) (Or.inr ⟨by rfl, rfl⟩) hS ?_
          (try go_frame)
          refine takeH (i := 17) (v := undef) (some 32) rfl rfl (by kernel_rfl) (by kernel_rfl) (by kernel_rfl) (fun _ _ _ h => h) (Or.inr ⟨by rfl, rfl⟩) hS ?_
          (try go_frame)
          refine takeH (i := 18) (v := undef) (some 33) rfl rfl (by kernel_rfl) (by kernel_rfl) (by kernel_rfl) (fun _ _ _ h => h) (Or.inr ⟨by rfl, rfl⟩) hS ?_
          (try go_frame)
          refine takeH (i := 19) (v := undef) (some 34) rfl rfl (by kernel_rfl) (by kernel_rfl) (by kernel_rfl) (fun _ _ _ h => h) (Or.inr ⟨by rfl, rfl⟩) hS ?_
          (try go_frame)
          refine takeH (i := 20) (v := undef) (some 35) rfl rfl (by kernel_rfl) (by kernel_rfl) (by kernel_rfl) (fun _ _ _ h => h) (Or.inr ⟨by rfl, rfl⟩) hS ?_
          (try go_frame)
          refine takeH (i := 21) (v := undef) (some 36) rfl rfl (by kernel_rfl) (by kernel_rfl) (by kernel_rfl) (fun _ _ _ h => h) (Or.inr ⟨by rfl, rfl⟩) hS ?_
          (try go_frame)
          refine takeH (i := 22) (v := undef) (some 37) rfl rfl (by kernel_rfl) (by kernel_rfl) (by kernel_rfl) (fun _ _ _ h => h) (Or.inr ⟨by rfl, rfl⟩) hS ?_
          (try go_frame)
          refine takeH (i := 23) (v := undef) (some 38) rfl rfl (by kernel_rfl) (by kernel_rfl) (by kernel_rfl) (fun _ _ _ h => h) (Or.inr ⟨by rfl, rfl⟩) hS ?_
          (try go_frame)
          refine takeH (i := 24) (v := undef) (some 39) rfl rfl (by kernel_rfl) (by kernel_rfl) (by kernel_rfl) (fun _ _ _ h => h) (Or.inr ⟨by rfl, rfl⟩) hS ?_
          (try go_frame)
          refine takeH (i := 25) (v := undef) (some 40) rfl rfl (by kernel_rfl) (by kernel_rfl) (by kernel_rfl) (fun _ _ _ h => h) (Or.inr ⟨by rfl, rfl⟩) hS ?_
          (try go_frame)
          refine takeH (i := 26) (v := .bool false) (some 41) rfl rfl (by kernel_rfl) (by kernel_rfl) (by kernel_rfl) (fun _ _ _ h => h) (Or.inl ⟨by rfl, fun X hX => ?_⟩) hS ?_
          · go_simp
          (try go_frame)
          refine wpAnyH_done (by kernel_rfl) ?_ _
          have HS2 := Lib.hid (HJ.out.1.still hS)
          clear hS
          go_wp2_with fail
          go_meet
          refine ⟨false, rfl, HS2.out, k, z, rfl, ?_⟩
          have h1' := HX.out.2
          have h3' := HK1.out
          have h4' := HLL.out.1
          rw [HK.out] at h1' h3' ⊢
          exact less_one h1' (by omega)
      case rest =>
        obtain ⟨c, rfl, HC0⟩ := hcut
        obtain ⟨kk, zz, hkk, hless⟩ := HC0.out.2
        have HKK := Lib.hid hkk
        have HLE := Lib.hid hless
        clear hless
        cases c
        · simp only [if_false, Bool.false_eq_true] at hkk
          subst hkk
          have HQ1 : Hid (wc.cell? ⟨qb, 0, none⟩ = some (.slice (some ⟨g, 0, none⟩) L cap)) := Lib.hid (HC0.out.1.q.blk.cellAt 0 rfl)
          have HR := Lib.hid HC0.out.1.q.own.rows
          have HXX : Hid (h1[i1]? = some x) := Lib.hid HX.out.1
          have HZZ : Hid (h1[kk]? = some zz) := Lib.hid HLE.out.1
          have HB : Hid (kk < h1.length ∧ 0 < kk ∧ (kk - 1) / 2 = i1) := Lib.hid ⟨(List.getElem?_eq_some_iff.1 HLE.out.1).1, HLE.out.2.1, HLE.out.2.2.1⟩
          have zk1 : (0 : Int) ≤ (kk : Int) := by omega
          have zk2 : (kk : Int) < (L : Int) := by have := HB.out; have := HLL.out; omega
          go_upto_region 5 with fail
          (try go_frame)
          refine wp_region_held_drew (S := fun X => Mod (fun _ => False) wc X) (by kernel_rfl) (Mod.refl _ _).drew (fun hS => ?_)
          refine' takeH (i := 0) (v := _) (some 44) rfl rfl (by kernel_rfl) (by kernel_rfl) (by kernel_rfl) (fun _ _ _ h => h) (Or.inl ⟨by rfl, fun X hX => ?_⟩) hS ?_
          rotate_left
          · go_simp; exact rfl
          (try go_frame)
          refine' takeH (i := 1) (v := _) (some 45) rfl rfl (by kernel_rfl) (by kernel_rfl) (by kernel_rfl) (fun _ _ _ h => h) (Or.inl ⟨by rfl, fun X hX => ?_⟩) hS ?_
          rotate_left
          · go_simp; exact rfl
          (try go_frame)
          refine' takeH (i := 2) (v := _) (some 46) rfl rfl (by kernel_rfl) (by kernel_rfl) (by kernel_rfl) (fun _ _ _ h => h) (Or.inl ⟨by rfl, fun X hX => ?_⟩) hS ?_
          rotate_left
          · go_simp; exact rfl
          (try go_frame)
          refine' takeH (i := 3) (v := _) (some 47) rfl rfl (by kernel_rfl) (by kernel_rfl) (by kernel_rfl) (fun _ _ _ h => h) (Or.inl ⟨by rfl, fun X hX => ?_⟩) hS ?_
          rotate_left
          · have c := hX.cellAt HQ1.out (fun e => e); go_simp; exact rfl
          (try go_frame)
          refine' takeH (i := 4) (v := _) (some 48) rfl rfl (by kernel_rfl) (by kernel_rfl) (by kernel_rfl) (fun _ _ _ h => h) (Or.inl ⟨by rfl, fun X hX => ?_⟩) hS ?_
          rotate_left
          · go_simp; exact rfl
          (try go_frame)
          refine' takeH (i := 5) (v := _) (some 49) rfl rfl (by kernel_rfl) (by kernel_rfl) (by kernel_rfl) (fun _ _ _ h => h) (Or.inl ⟨by rfl, fun X hX => ?_⟩) hS ?_
          rotate_left
          · go_simp; exact rfl
          (try go_frame)
          refine' takeH (i := 6) (v := _) (some 50) rfl rfl (by kernel_rfl) (by kernel_rfl) (by kernel_rfl) (fun _ _ _ h => h) (Or.inl ⟨by rfl, fun X hX => ?_⟩) hS ?_
          rotate_left
          · refine exec_tm (x := .tmp 49) (g := g) (o := kk * 3) (t := zz) ?_ ?_ ?_; exact rfl; exact rfl; exact (fun j u hu => hX.cellAt (HR.out _ _ HZZ.out j u hu) (fun e => e))
          (try go_frame)
          refine' takeH (i := 7) (v := _) (some 51) rfl rfl (by kernel_rfl) (by kernel_rfl) (by kernel_rfl) (fun _ _ _ h => h) (Or.inl ⟨by rfl, fun X hX => ?_⟩) hS ?_
          rotate_left
          · go_simp; exact rfl
          (try go_frame)
          refine' takeH (i := 8) (v := _) (some 52) rfl rfl (by kernel_rfl) (by kernel_rfl) (by kernel_rfl) (fun _ _ _ h => h) (Or.inl ⟨by rfl, fun X hX => ?_⟩) hS ?_
          rotate_left
          · go_simp; exact rfl
          (try go_frame)
          refine' takeH (i := 9) (v := _) (some 53) rfl rfl (by kernel_rfl) (by kernel_rfl) (by kernel_rfl) (fun _ _ _ h => h) (Or.inl ⟨by rfl, fun X hX => ?_⟩) hS ?_
          rotate_left
          · go_simp; exact rfl
          (try go_frame)
          refine' takeH (i := 10) (v := _) (some 54) rfl rfl (by kernel_rfl) (by kernel_rfl) (by kernel_rfl) (fun _ _ _ h => h) (Or.inl ⟨by rfl, fun X hX => ?_⟩) hS ?_
          rotate_left
          · have c := hX.cellAt HQ1.out (fun e => e); go_simp; exact rfl
          (try go_frame)
          refine' takeH (i := 11) (v := _) (some 55) rfl rfl (by kernel_rfl) (by kernel_rfl) (by kernel_rfl) (fun _ _ _ h => h) (Or.inl ⟨by rfl, fun X hX => ?_⟩) hS ?_
          rotate_left
          · go_simp; exact rfl
          (try go_frame)
          refine' takeH (i := 12) (v := _) (some 56) rfl rfl (by kernel_rfl) (by kernel_rfl) (by kernel_rfl) (fun _ _ _ h => h) (Or.inl ⟨by rfl, fun X hX => ?_⟩) hS ?_
          rotate_left
          · go_simp; exact rfl
          (try go_frame)
          refine' takeH (i := 13) (v := _) (some 57) rfl rfl (by kernel_rfl) (by kernel_rfl) (by kernel_rfl) (fun _ _ _ h => h) (Or.inl ⟨by rfl, fun X hX => ?_⟩) hS ?_
          rotate_left
          · refine exec_tm (x := .tmp 56) (g := g) (o := i1 * 3) (t := x) ?_ ?_ ?_; exact rfl; exact rfl; exact (fun j u hu => hX.cellAt (HR.out _ _ HXX.out j u hu) (fun e => e))
          (try go_frame)
          refine wpAnyH_ready (rs := [14]) (by kernel_rfl) (by simp) ?_
          refine AllReadyH.cons (o := ⟨some 58, _, _, _, _, none⟩) rfl (fun K hK => ?_) AllReadyH.nil
          go_simp
          refine (ahead_any zz x _).mono ?_
          rintro e w24 ⟨rfl, hM24⟩
          refine hK.out _ _ (hS.trans hM24) (fun hS => ?_)
          clear hK K
          clear hM24
          (try go_frame)
          obtain ⟨c, hc⟩ : ∃ c, c = ahd zz x := ⟨_, rfl⟩
          have HC := Lib.hid hc
          clear hc
          have HCZ : Hid (decide (ahdZ zz x < 0) = c) := by rw [HC.out]; exact ahdZ_neg zz x
          refine takeH (i := 15) (v := .bool c) (some 59) rfl rfl (by kernel_rfl) (by kernel_rfl) (by kernel_rfl) (fun _ _ _ h => h) (Or.inl ⟨by rfl, fun X hX => ?_⟩) hS ?_
          · go_simp; exact HCZ.out
          (try go_frame)
          refine wpAnyH_done (by kernel_rfl) ?_ _
          have HS2 := Lib.hid (HC0.out.1.still hS)
          clear hS
          cases c
          · go_wp2_with fail
            simp only [Exit.jump]
            go_end0
            exact ⟨n1, h1, f1, rfl, HS2.out, HJ.out.2.1.stay HXX.out HLE.out.2.2.2 HC.out.symm, by have := HJ.out.2.2.2.2; omega⟩
          · have HKQ : Hid (okK (keyT x) ∧ okK (keyT zz) ∧ n1 + 1 < maxLen) := Lib.hid ⟨HLL.out.2 x (List.mem_of_getElem? HXX.out), HLL.out.2 zz (List.mem_of_getElem? HZZ.out), by have := HP.out; have := HJ.out; omega⟩
            go_wp2_with (first
              | (go_at_call 33; refine (swap_any HS2.out.q HXX.out HZZ.out HKQ.out.2.2 HKQ.out.1 HKQ.out.2.1).mono ?_; rintro e w32 ⟨rfl, hq3, hM3⟩; have HQ3 := Lib.hid (HS2.out.swap HXX.out HZZ.out hq3 hM3); clear hq3 hM3)
              | fail)
            go_step3
            refine ⟨rfl, ⟨n1 + 2, kk, _, _, _, _, _, _, _, _, _, _, _, _, _, _, _, _, _, _, _, _, _, _, _, _, _, _, _, _, _, _, _, _, _, _, _, _, _, _, _, _, _, _, _, _, _, _, _, _, _, _, _, _, _, _, _, _, _, _, _, _, _, _, _, rfl, ⟨HQ3.out, HJ.out.2.1.down HXX.out HZZ.out HB.out.2 HLE.out.2.2.2 HC.out.symm, ?_, ?_, ?_⟩⟩, ?_⟩
            · rw [swp_len]; exact HB.out.1
            · have := HB.out; have := HJ.out; omega
            · have := HB.out; have := HJ.out; have := HJ.out.1.perm.length_eq; omega
            · have := HB.out; have := HLL.out; have := HJ.out; simp; omega
        · simp only [if_true] at hkk
          have HQ1 : Hid (wc.cell? ⟨qb, 0, none⟩ = some (.slice (some ⟨g, 0, none⟩) L cap)) := Lib.hid (HC0.out.1.q.blk.cellAt 0 rfl)
          have HR := Lib.hid HC0.out.1.q.own.rows
          have HXX : Hid (h1[i1]? = some x) := Lib.hid HX.out.1
          have HZZ : Hid (h1[kk]? = some zz) := Lib.hid HLE.out.1
          have HB : Hid (kk < h1.length ∧ 0 < kk ∧ (kk - 1) / 2 = i1) := Lib.hid ⟨(List.getElem?_eq_some_iff.1 HLE.out.1).1, HLE.out.2.1, HLE.out.2.2.1⟩
          have ek : (k : Int) + 1 = (kk : Int) := by omega
          have z2' : (0 : Int) ≤ (k : Int) + 1 := by omega
          have Hek := Lib.hid ek
          clear ek hkk
          have zk1 : (0 : Int) ≤ (kk : Int) := by omega
          have zk2 : (kk : Int) < (L : Int) := by have := HB.out; have := HLL.out; omega
          go_upto_region 5 with fail
          rw [Hek.out]
          clear z2'
          (try go_frame)
          refine wp_region_held_drew (S := fun X => Mod (fun _ => False) wc X) (by kernel_rfl) (Mod.refl _ _).drew (fun hS => ?_)
          refine' takeH (i := 0) (v := _) (some 44) rfl rfl (by kernel_rfl) (by kernel_rfl) (by kernel_rfl) (fun _ _ _ h => h) (Or.inl ⟨by rfl, fun X hX => ?_⟩) hS ?_
          rotate_left
          · go_simp; exact rfl
          (try go_frame)
          refine' takeH (i := 1) (v := _) (some 45) rfl rfl (by kernel_rfl) (by kernel_rfl) (by kernel_rfl) (fun _ _ _ h => h) (Or.inl ⟨by rfl, fun X hX => ?_⟩) hS ?_
          rotate_left
          · go_simp; exact rfl
          (try go_frame)
          refine' takeH (i := 2) (v := _) (some 46) rfl rfl (by kernel_rfl) (by kernel_rfl) (by kernel_rfl) (fun _ _ _ h => h) (Or.inl ⟨by rfl, fun X hX => ?_⟩) hS ?_
          rotate_left
          · go_simp; exact rfl
          (try go_frame)
          refine' takeH (i := 3) (v := _) (some 47) rfl rfl (by kernel_rfl) (by kernel_rfl) (by kernel_rfl) (fun _ _ _ h => h) (Or.inl ⟨by rfl, fun X hX => ?_⟩) hS ?_
          rotate_left
          · have c := hX.cellAt HQ1.out (fun e => e); go_simp; exact rfl
          (try go_frame)
          refine' takeH (i := 4) (v := _) (some 48) rfl rfl (by kernel_rfl) (by kernel_rfl) (by kernel_rfl) (fun _ _ _ h => h) (Or.inl ⟨by rfl, fun X hX => ?_⟩) hS ?_
          rotate_left
          · go_simp; exact rfl
          (try go_frame)
          refine' takeH (i := 5) (v := _) (some 49) rfl rfl (by kernel_rfl) (by kernel_rfl) (by kernel_rfl) (fun _ _ _ h => h) (Or.inl ⟨by rfl, fun X hX => ?_⟩) hS ?_
          rotate_left
          · go_simp; exact rfl
          (try go_frame)
          refine' takeH (i := 6) (v := _) (some 50) rfl rfl (by kernel_rfl) (by kernel_rfl) (by kernel_rfl) (fun _ _ _ h => h) (Or.inl ⟨by rfl, fun X hX => ?_⟩) hS ?_
          rotate_left
          · refine exec_tm (x := .tmp 49) (g := g) (o := kk * 3) (t := zz) ?_ ?_ ?_; exact rfl; exact rfl; exact (fun j u hu => hX.cellAt (HR.out _ _ HZZ.out j u hu) (fun e => e))
          (try go_frame)
          refine' takeH (i := 7) (v := _) (some 51) rfl rfl (by kernel_rfl) (by kernel_rfl) (by kernel_rfl) (fun _ _ _ h => h) (Or.inl ⟨by rfl, fun X hX => ?_⟩) hS ?_
          rotate_left
          · go_simp; exact rfl
          (try go_frame)
          refine' takeH (i := 8) (v := _) (some 52) rfl rfl (by kernel_rfl) (by kernel_rfl) (by kernel_rfl) (fun _ _ _ h => h) (Or.inl ⟨by rfl, fun X hX => ?_⟩) hS ?_
          rotate_left
          · go_simp; exact rfl
          (try go_frame)
          refine' takeH (i := 9) (v := _) (some 53) rfl rfl (by kernel_rfl) (by kernel_rfl) (by kernel_rfl) (fun _ _ _ h => h) (Or.inl ⟨by rfl, fun X hX => ?_⟩) hS ?_
          rotate_left
          · go_simp; exact rfl
          (try go_frame)
          refine' takeH (i := 10) (v := _) (some 54) rfl rfl (by kernel_rfl) (by kernel_rfl) (by kernel_rfl) (fun _ _ _ h => h) (Or.inl ⟨by rfl, fun X hX => ?_⟩) hS ?_
          rotate_left
          · have c := hX.cellAt HQ1.out (fun e => e); go_simp; exact rfl
          (try go_frame)
          refine' takeH (i := 11) (v := _) (some 55) rfl rfl (by kernel_rfl) (by kernel_rfl) (by kernel_rfl) (fun _ _ _ h => h) (Or.inl ⟨by rfl, fun X hX => ?_⟩) hS ?_
          rotate_left
          · go_simp; exact rfl
          (try go_frame)
          refine' takeH (i := 12) (v := _) (some 56) rfl rfl (by kernel_rfl) (by kernel_rfl) (by kernel_rfl) (fun _ _ _ h => h) (Or.inl ⟨by rfl, fun X hX => ?_⟩) hS ?_
          rotate_left
          · go_simp; exact rfl
          (try go_frame)
          refine' takeH (i := 13) (v := _) (some 57) rfl rfl (by kernel_rfl) (by kernel_rfl) (by kernel_rfl) (fun _ _ _ h => h) (Or.inl ⟨by rfl, fun X hX => ?_⟩) hS ?_
          rotate_left
          · refine exec_tm (x := .tmp 56) (g := g) (o := i1 * 3) (t := x) ?_ ?_ ?_; exact rfl; exact rfl; exact (fun j u hu => hX.cellAt (HR.out _ _ HXX.out j u hu) (fun e => e))
          (try go_frame)
          refine wpAnyH_ready (rs := [14]) (by kernel_rfl) (by simp) ?_
          refine AllReadyH.cons (o := ⟨some 58, _, _, _, _, none⟩) rfl (fun K hK => ?_) AllReadyH.nil
          go_simp
          refine (ahead_any zz x _).mono ?_
          rintro e w24 ⟨rfl, hM24⟩
          refine hK.out _ _ (hS.trans hM24) (fun hS => ?_)
          clear hK K
          clear hM24
          (try go_frame)
          obtain ⟨c, hc⟩ : ∃ c, c = ahd zz x := ⟨_, rfl⟩
          have HC := Lib.hid hc
          clear hc
          have HCZ : Hid (decide (ahdZ zz x < 0) = c) := by rw [HC.out]; exact ahdZ_neg zz x
          refine takeH (i := 15) (v := .bool c) (some 59) rfl rfl (by kernel_rfl) (by kernel_rfl) (by kernel_rfl) (fun _ _ _ h => h) (Or.inl ⟨by rfl, fun X hX => ?_⟩) hS ?_
          · go_simp; exact HCZ.out
          (try go_frame)
          refine wpAnyH_done (by kernel_rfl) ?_ _
          have HS2 := Lib.hid (HC0.out.1.still hS)
          clear hS
          cases c
          · go_wp2_with fail
            simp only [Exit.jump]
            go_end0
            exact ⟨n1, h1, f1, rfl, HS2.out, HJ.out.2.1.stay HXX.out HLE.out.2.2.2 HC.out.symm, by have := HJ.out.2.2.2.2; omega⟩
          · have HKQ : Hid (okK (keyT x) ∧ okK (keyT zz) ∧ n1 + 1 < maxLen) := Lib.hid ⟨HLL.out.2 x (List.mem_of_getElem? HXX.out), HLL.out.2 zz (List.mem_of_getElem? HZZ.out), by have := HP.out; have := HJ.out; omega⟩
            go_wp2_with (first
              | (go_at_call 33; refine (swap_any HS2.out.q HXX.out HZZ.out HKQ.out.2.2 HKQ.out.1 HKQ.out.2.1).mono ?_; rintro e w32 ⟨rfl, hq3, hM3⟩; have HQ3 := Lib.hid (HS2.out.swap HXX.out HZZ.out hq3 hM3); clear hq3 hM3)
              | fail)
            go_step3
            refine ⟨rfl, ⟨n1 + 2, kk, _, _, _, _, _, _, _, _, _, _, _, _, _, _, _, _, _, _, _, _, _, _, _, _, _, _, _, _, _, _, _, _, _, _, _, _, _, _, _, _, _, _, _, _, _, _, _, _, _, _, _, _, _, _, _, _, _, _, _, _, _, _, _, rfl, ⟨HQ3.out, HJ.out.2.1.down HXX.out HZZ.out HB.out.2 HLE.out.2.2.2 HC.out.symm, ?_, ?_, ?_⟩⟩, ?_⟩
            · rw [swp_len]; exact HB.out.1
            · have := HB.out; have := HJ.out; omega
            · have := HB.out; have := HJ.out; have := HJ.out.1.perm.length_eq; omega
            · have := HB.out; have := HLL.out; have := HJ.out; simp; omega
    · have hk' : ¬ (2 * (i1 : Int) + 1) < (L : Int) := by omega
      go_wp2_with fail
      simp only [Exit.jump]
      refine bodyPost_ret (results_none rfl _ _ _) rfl ?_
      exact ⟨n1, h1, f1, rfl, HJ.out.1, HJ.out.2.1.done (by have := HLL.out.1; omega), by have := HJ.out.2.2.2.2; omega⟩
end Go.Proofs.Ytodcadcapmhgfaa
