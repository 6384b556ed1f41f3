/- A place's timer is cut out: the program's. (printed by genteg.py) -/
import Derived.Test.YtodcadcapmhgfaaTeF
namespace Go.Proofs.Ytodcadcapmhgfaa
open Go.RowKit

def CutR (w0 w : World) (B qb : Nat) (v : Value) (mb N : Nat) (h0 : List Tm) (a : Tm) (e : Ending) : Prop :=
  ∃ (n : Nat) (v' : Value) (h : List Tm) (f : Int × Int → Option Value), e = .returned (.agg (tmA a)) ∧ QM w B qb v' mb n h f ∧ Cons h f ∧ Heap h ∧ (a :: h).Perm h0 ∧ v'.ownBlock = v.ownBlock ∧ Mod (QB qb v mb) w0 w ∧ n ≤ N
def zTm : Array Value := #[.int .u64 0, .int .i64 0, .int .i64 0]
theorem delK_twice (f : Int × Int → Option Value) (p : Int × Int) : delK (delK f p) p = delK f p := by
  funext y
  unfold delK
  split <;> rfl
set_option maxHeartbeats 4000000 in
set_option maxRecDepth 10000 in
theorem cut_any {w : World} {B qb mb n i : Nat} {v : Value} {h : List Tm} {f : Int × Int → Option Value} {a : Tm} (q : QM w B qb v mb n h f) (hc : Cons h f) (ha : h[i]? = some a) (hl : h.length ≤ 200) (hx : Heap h) (hn : n + 1000 < maxLen) (hk : OkAll h) (hB : B ≤ w.heap.size) :
    Calls Try.prog 26 #[.pointer (some ⟨qb, 0, none⟩), .int .i64 i] w fun e w' => CutR w w' B qb v mb (n + 1000) h a e := by
  have hi := (List.getElem?_eq_some_iff.1 ha).1
  obtain ⟨b, hb⟩ : ∃ b, h[h.length - 1]? = some b := ⟨_, List.getElem?_eq_getElem (by omega)⟩
  have HP : Hid (QM w B qb v mb n h f ∧ Cons h f ∧ i < h.length ∧ h.length ≤ 200 ∧ Heap h ∧ n + 1000 < maxLen ∧ OkAll h) := ⟨q, hc, hi, hl, hx, hn, hk⟩
  have HA := Lib.hid (And.intro ha hb)
  obtain ⟨g, cap, hv, hcap, -, -⟩ := q.own.at ha
  obtain ⟨L, hL⟩ : ∃ L, L = h.length - 1 := ⟨_, rfl⟩
  have i0 : (0 : Int) ≤ (i : Int) := by omega
  have i1 : (i : Int) < (h.length : Int) := by omega
  have j0 : (0 : Int) ≤ (L : Int) := by omega
  have j1 : (L : Int) ≤ 200 := by omega
  have j2 : (L : Int) < (h.length : Int) := by omega
  have j3 : (L : Int) ≤ (cap : Int) := by omega
  have HW : Hid (IntKind.i64.wrap ((h.length : Int) - 1) = (L : Int)) := by
    have e : (h.length : Int) - 1 = (L : Int) := by omega
    rw [e]
    exact IntWalk.i64_in _ (by omega)
  have HL := Lib.hid hL
  have HB := Lib.hid hB
  clear q hc hi hl hx hn hk ha hb hB hL hcap
  subst hv
  go_enter Try.func26, Try.ntmps26
  go_upto_region 1 with fail
  have hB4 : Blk (w.alloc (.cells #[.int .u64 0, .int .i64 0, .int .i64 0] 27)) w.heap.size #[.int .u64 0, .int .i64 0, .int .i64 0] 27 := Blk.new _ _ _
  have hM4 : Mod (fun _ => False) w (w.alloc (.cells #[.int .u64 0, .int .i64 0, .int .i64 0] 27)) := (Mod.refl _ _).alloc _
  obtain ⟨p4, hp4⟩ : ∃ p, p = w.heap.size := ⟨_, rfl⟩
  rw [← hp4] at hB4 ⊢
  have HP4 := Lib.hid hp4
  clear hp4
  generalize w.alloc (.cells #[.int .u64 0, .int .i64 0, .int .i64 0] 27) = W at *
  have HQ0 := Lib.hid (HP.out.1.still hM4)
  have HR := Lib.hid HQ0.out.own.rows
  have HQC : Hid (W.cell? ⟨qb, 0, none⟩ = some (.slice (some ⟨g, 0, none⟩) h.length cap)) := Lib.hid (HQ0.out.blk.cellAt 0 rfl)
  have H4 := Lib.hid (And.intro hB4 hM4)
  clear hB4 hM4
  (try go_frame)
  refine wp_region_held_drew (S := fun X => Mod (fun _ => False) W X) (by kernel_rfl) (Mod.refl _ _).drew (fun hS => ?_)
  refine' takeH (i := 0) (v := _) (some 7) rfl rfl (by kernel_rfl) (by kernel_rfl) (by kernel_rfl) (fun _ _ _ h => h) (Or.inl ⟨by rfl, fun X hX => ?_⟩) hS ?_
  rotate_left
  · go_simp; exact rfl
  (try go_frame)
  refine' takeH (i := 1) (v := _) (some 8) rfl rfl (by kernel_rfl) (by kernel_rfl) (by kernel_rfl) (fun _ _ _ h => h) (Or.inl ⟨by rfl, fun X hX => ?_⟩) hS ?_
  rotate_left
  · go_simp; exact rfl
  (try go_frame)
  refine' takeH (i := 2) (v := _) (some 9) rfl rfl (by kernel_rfl) (by kernel_rfl) (by kernel_rfl) (fun _ _ _ h => h) (Or.inl ⟨by rfl, fun X hX => ?_⟩) hS ?_
  rotate_left
  · go_simp; exact rfl
  (try go_frame)
  refine' takeH (i := 3) (v := _) (some 10) rfl rfl (by kernel_rfl) (by kernel_rfl) (by kernel_rfl) (fun _ _ _ h => h) (Or.inl ⟨by rfl, fun X hX => ?_⟩) hS ?_
  rotate_left
  · have c := hX.cellAt HQC.out (fun e => e); go_simp; exact rfl
  (try go_frame)
  refine' takeH (i := 4) (v := _) (some 11) rfl rfl (by kernel_rfl) (by kernel_rfl) (by kernel_rfl) (fun _ _ _ h => h) (Or.inl ⟨by rfl, fun X hX => ?_⟩) hS ?_
  rotate_left
  · go_simp; exact rfl
  (try go_frame)
  refine' takeH (i := 5) (v := _) (some 12) rfl rfl (by kernel_rfl) (by kernel_rfl) (by kernel_rfl) (fun _ _ _ h => h) (Or.inl ⟨by rfl, fun X hX => ?_⟩) hS ?_
  rotate_left
  · go_simp; exact rfl
  (try go_frame)
  refine' takeH (i := 6) (v := _) (some 13) rfl rfl (by kernel_rfl) (by kernel_rfl) (by kernel_rfl) (fun _ _ _ h => h) (Or.inl ⟨by rfl, fun X hX => ?_⟩) hS ?_
  rotate_left
  · refine exec_tm (x := .tmp 12) (g := g) (o := i * 3) (t := a) ?_ ?_ ?_; exact rfl; exact rfl; exact (fun j u hu => hX.cellAt (HR.out _ _ HA.out.1 j u hu) (fun e => e))
  (try go_frame)
  refine' takeH (i := 7) (v := _) (some 14) rfl rfl (by kernel_rfl) (by kernel_rfl) (by kernel_rfl) (fun _ _ _ h => h) (Or.inl ⟨by rfl, fun X hX => ?_⟩) hS ?_
  rotate_left
  · go_simp; exact rfl
  (try go_frame)
  refine' takeH (i := 8) (v := _) (some 15) rfl rfl (by kernel_rfl) (by kernel_rfl) (by kernel_rfl) (fun _ _ _ h => h) (Or.inl ⟨by rfl, fun X hX => ?_⟩) hS ?_
  rotate_left
  · go_simp; exact rfl
  (try go_frame)
  refine' takeH (i := 9) (v := _) (some 16) rfl rfl (by kernel_rfl) (by kernel_rfl) (by kernel_rfl) (fun _ _ _ h => h) (Or.inl ⟨by rfl, fun X hX => ?_⟩) hS ?_
  rotate_left
  · go_simp; exact rfl
  (try go_frame)
  refine' takeH (i := 10) (v := _) (some 17) rfl rfl (by kernel_rfl) (by kernel_rfl) (by kernel_rfl) (fun _ _ _ h => h) (Or.inl ⟨by rfl, fun X hX => ?_⟩) hS ?_
  rotate_left
  · have c := hX.cellAt HQC.out (fun e => e); go_simp; exact rfl
  (try go_frame)
  refine' takeH (i := 11) (v := _) (some 18) rfl rfl (by kernel_rfl) (by kernel_rfl) (by kernel_rfl) (fun _ _ _ h => h) (Or.inl ⟨by rfl, fun X hX => ?_⟩) hS ?_
  rotate_left
  · go_simp; exact rfl
  (try go_frame)
  refine' takeH (i := 12) (v := _) (some 19) rfl rfl (by kernel_rfl) (by kernel_rfl) (by kernel_rfl) (fun _ _ _ h => h) (Or.inl ⟨by rfl, fun X hX => ?_⟩) hS ?_
  rotate_left
  · go_simp; rw [HW.out]
  (try go_frame)
  have l0 : W.heap.size ≤ W.drew.heap.size := hS.size
  generalize W.drew = W0 at *
  refine wpAnyH_ready (rs := [13]) (by kernel_rfl) (by simp) ?_
  refine (AllReadyH.cons (o := ⟨some 5, _, _, _, _, none⟩) rfl (fun K hK => ?_) AllReadyH.nil)
  go_simp
  refine hK.out _ _ (hS.alloc _) (fun hS => ?_)
  clear hK K
  (try go_frame)
  have hB5 : Blk (W0.alloc (.cells #[.int .u64 0, .int .i64 0, .int .i64 0] 27)) W0.heap.size #[.int .u64 0, .int .i64 0, .int .i64 0] 27 := Blk.new _ _ _
  have l5 : W.heap.size ≤ W0.heap.size := l0
  generalize W0.alloc (.cells #[.int .u64 0, .int .i64 0, .int .i64 0] 27) = W1 at *
  generalize W0.heap.size = p5 at *
  refine wpAnyH_ready (rs := [14]) (by kernel_rfl) (by simp) ?_
  refine (AllReadyH.cons (o := ⟨none, _, _, _, _, none⟩) rfl (fun K hK => ?_) AllReadyH.nil)
  obtain ⟨W3, hr, hB, hM⟩ := blk_put a hB5 rfl
  refine step_skip rfl (exec_store (x := .tmp 5) (y := .tmp 13) rfl rfl rfl hr) ?_
  refine hK.out _ _ (hS.trans' hM (fun k hk e => by omega)) (fun hS => ?_)
  clear hK K hr
  (try go_frame)
  refine takeH (i := 15) (v := .int .i64 L) (some 6) rfl rfl (by kernel_rfl) (by kernel_rfl) (by kernel_rfl) (fun _ _ _ h => h) (Or.inl ⟨by rfl, fun X hX => ?_⟩) hS ?_
  · go_simp
  (try go_frame)
  refine wpAnyH_done (by kernel_rfl) ?_ _
  have HQ3 := Lib.hid (HQ0.out.still hS)
  have H5 : Hid (Blk W3 p5 (tmA a) 27 ∧ W.heap.size ≤ p5) := ⟨hB, l5⟩
  have H4' := Lib.hid (And.intro (hS.blk H4.out.1 (fun e => e)) (H4.out.2.trans hS))
  clear hS hB hM l5 l0 hB5
  have hHK : okK (keyT a) ∧ okK (keyT b) := ⟨HP.out.2.2.2.2.2.2 a (List.mem_of_getElem? HA.out.1), HP.out.2.2.2.2.2.2 b (List.mem_of_getElem? HA.out.2)⟩
  have HHK := Lib.hid hHK
  clear hHK
  go_upto_region 4 with (first
    | (go_at_call 33; refine (swap_any (i := i) (k := L) (a := a) (b := b) HQ3.out HA.out.1 (by rw [HL.out]; exact HA.out.2) (by have := HP.out.2.2.2.2.2.1; omega) HHK.out.1 HHK.out.2).mono ?_; rintro e w6 ⟨rfl, hq6, hM6⟩; have HQ6 := Lib.hid hq6; have HM6 := Lib.hid hM6; have hc6 : w6.cell? ⟨qb, 0, none⟩ = some (.slice (some ⟨g, 0, none⟩) h.length cap) := hq6.blk.cellAt 0 rfl; have hf6 : w6.frozen? ⟨qb, 0, none⟩ = false := hq6.blk.free 0; clear hq6 hM6)
    | fail)
  obtain ⟨v', hv'⟩ : ∃ v', v' = Value.slice (some ⟨g, 0, none⟩) L cap := ⟨_, rfl⟩
  have hLs : (swp h i L a b).length - 1 = L := by rw [swp_len, HL.out]
  have hQ7 : QM (w6.setCell ⟨qb, 0, none⟩ v') B qb v' mb (n + 2) ((swp h i L a b).take L) (updK (updK f (keyT b) (.int .i64 (i : Int))) (keyT a) (.int .i64 (L : Int))) := by
    have q := HQ6.out
    have hm7 : Mod (fun k => k = qb) w6 (w6.setCell ⟨qb, 0, none⟩ v') := (Mod.refl (fun k => k = qb) _).setCell (p := ⟨qb, 0, none⟩) (fun _ => rfl) _
    refine ⟨q.bq, q.bm, ?_, ?_, q.map.kept hm7 q.mq⟩
    · exact q.blk.set 0 v'
    · have ht := OwnT.take q.own L (by rw [swp_len, HL.out]; omega)
      rw [← hv'] at ht
      refine ht.kept hm7 ?_
      intro k hk e
      rw [hv'] at hk
      exact q.vq (by rw [← e]; exact hk)
  have hM7 : Mod (QB qb (.slice (some ⟨g, 0, none⟩) h.length cap) mb) w (w6.setCell ⟨qb, 0, none⟩ v') :=
    ((H4'.out.2.mono (fun _ _ h => h.elim)).trans (HM6.out.mono (fun k _ hk => QS.qb k hk))).setCell (p := ⟨qb, 0, none⟩) (fun _ => Or.inl rfl) _
  have hgm : g < W.heap.size ∧ mb < W.heap.size ∧ qb < W.heap.size ∧ p4 < W.heap.size ∧ W.heap.size ≤ W3.heap.size := by
    obtain ⟨_, cur, hgb⟩ := HQ0.out.own.blk
    exact ⟨hgb.lt, HQ0.out.map.lt, HQ0.out.blk.lt, H4.out.1.lt, by have := H5.out.1.lt; have := H5.out.2; omega⟩
  have hQS : ∀ k, QS (.slice (some ⟨g, 0, none⟩) h.length cap) mb k → k = g ∨ k = mb := by
    rintro k (e1 | e1)
    · exact Or.inl (Option.some.inj e1).symm
    · exact Or.inr e1
  have h5 : Blk (w6.setCell ⟨qb, 0, none⟩ v') p5 (tmA a) 27 := by
    have h5l := H5.out.2
    refine (HM6.out.blk H5.out.1 (fun e => ?_)).setOther (a := ⟨qb, 0, none⟩) (fun e => ?_) _
    · rcases hQS _ e with e | e <;> omega
    · have e' : p5 = qb := e
      omega
  have h4 : Blk (w6.setCell ⟨qb, 0, none⟩ v') p4 #[.int .u64 0, .int .i64 0, .int .i64 0] 27 := by
    have e4 := HP4.out
    have := HP.out.1.blk.lt
    have := HP.out.1.map.lt
    obtain ⟨_, cur, hgb⟩ := HP.out.1.own.blk
    have := hgb.lt
    refine (HM6.out.blk H4'.out.1 (fun e => ?_)).setOther (a := ⟨qb, 0, none⟩) (fun e => ?_) _
    · rcases hQS _ e with e | e <;> omega
    · have e' : p4 = qb := e
      omega
  have hne : p4 ≠ p5 := by have := H5.out.2; omega
  rw [← hv']
  clear hc6 hf6
  generalize w6.setCell ⟨qb, 0, none⟩ v' = W7 at *
  have HQ7 := Lib.hid hQ7
  have H7 := Lib.hid (And.intro h4 (And.intro h5 (And.intro hM7 hne)))
  have HV' := Lib.hid hv'
  have HLs := Lib.hid hLs
  have hm7 : W7.cell? ⟨qb, 1, none⟩ = some (.map (some mb)) := hQ7.blk.cellAt 1 rfl
  have hk1 : W7.cell? ⟨p5, 1, none⟩ = some (.int .i64 a.c) := h5.cellAt 1 rfl
  have hk2 : W7.cell? ⟨p5, 2, none⟩ = some (.int .i64 a.k) := h5.cellAt 2 rfl
  have HC7 := Lib.hid (And.intro hm7 (And.intro hk1 hk2))
  clear hQ7 hM7 hgm hQS h5 h4 hv' hLs hm7 hk1 hk2 hne
  have hne7 : ¬ qb = mb ∧ ¬ p5 = mb := ⟨fun e => HQ7.out.mq e.symm, fun e => by have := H5.out.2; have := HQ0.out.map.lt; omega⟩
  have HNE := Lib.hid hne7
  clear hne7
  obtain ⟨F, hF⟩ : ∃ F, F = updK (updK f (keyT b) (.int .i64 (i : Int))) (keyT a) (.int .i64 (L : Int)) := ⟨_, rfl⟩
  rw [← hF] at HQ7
  have HF := Lib.hid hF
  clear hF
  (try go_frame)
  refine wp_region_held_drew (S := fun X => Mod (fun k => k = mb) W7 X ∧ ∃ f', WMap X mb (n + 2) f' ∧ delK f' (keyT a) = delK F (keyT a)) (by kernel_rfl) ⟨(Mod.refl _ _).drew, F, HQ7.out.map.kept (Mod.refl (fun _ => False) _).drew (fun e => e), rfl⟩ (fun hS => ?_)
  refine' takeH (i := 0) (v := _) (some 33) rfl rfl (by kernel_rfl) (by kernel_rfl) (by kernel_rfl) (fun _ _ _ h => h) (Or.inl ⟨by rfl, fun X hX => ?_⟩) hS ?_
  rotate_left
  · go_simp; exact rfl
  (try go_frame)
  refine' takeH (i := 1) (v := _) (some 34) rfl rfl (by kernel_rfl) (by kernel_rfl) (by kernel_rfl) (fun _ _ _ h => h) (Or.inl ⟨by rfl, fun X hX => ?_⟩) hS ?_
  rotate_left
  · go_simp; exact rfl
  (try go_frame)
  refine' takeH (i := 2) (v := _) (some 35) rfl rfl (by kernel_rfl) (by kernel_rfl) (by kernel_rfl) (fun _ _ _ h => h) (Or.inl ⟨by rfl, fun X hX => ?_⟩) hS ?_
  rotate_left
  · go_simp; exact rfl
  (try go_frame)
  refine' takeH (i := 3) (v := _) (some 36) rfl rfl (by kernel_rfl) (by kernel_rfl) (by kernel_rfl) (fun _ _ _ h => h) (Or.inl ⟨by rfl, fun X hX => ?_⟩) hS ?_
  rotate_left
  · have c := hX.1.cellAt HC7.out.1 HNE.out.1; go_simp; exact rfl
  (try go_frame)
  refine' takeH (i := 4) (v := _) (some 37) rfl rfl (by kernel_rfl) (by kernel_rfl) (by kernel_rfl) (fun _ _ _ h => h) (Or.inl ⟨by rfl, fun X hX => ?_⟩) hS ?_
  rotate_left
  · go_simp; exact rfl
  (try go_frame)
  refine' takeH (i := 5) (v := _) (some 38) rfl rfl (by kernel_rfl) (by kernel_rfl) (by kernel_rfl) (fun _ _ _ h => h) (Or.inl ⟨by rfl, fun X hX => ?_⟩) hS ?_
  rotate_left
  · have c := hX.1.cellAt HC7.out.2.1 HNE.out.2; go_simp; exact rfl
  (try go_frame)
  refine' takeH (i := 6) (v := _) (some 39) rfl rfl (by kernel_rfl) (by kernel_rfl) (by kernel_rfl) (fun _ _ _ h => h) (Or.inl ⟨by rfl, fun X hX => ?_⟩) hS ?_
  rotate_left
  · go_simp; exact rfl
  (try go_frame)
  refine' takeH (i := 7) (v := _) (some 40) rfl rfl (by kernel_rfl) (by kernel_rfl) (by kernel_rfl) (fun _ _ _ h => h) (Or.inl ⟨by rfl, fun X hX => ?_⟩) hS ?_
  rotate_left
  · have c := hX.1.cellAt HC7.out.2.2 HNE.out.2; go_simp; exact rfl
  (try go_frame)
  refine takeH (i := 8) (v := wK (a.c, a.k)) (some 41) rfl rfl (by kernel_rfl) (by kernel_rfl) (by kernel_rfl) (fun _ _ _ h => h) (Or.inl ⟨by rfl, fun X hX => ?_⟩) hS ?_
  · go_simp; exact rfl
  (try go_frame)
  refine wpAnyH_ready (rs := [9]) (by kernel_rfl) (by simp) ?_
  refine (AllReadyH.cons (o := ⟨none, _, _, _, _, none⟩) rfl (fun K hK => ?_) AllReadyH.nil)
  have HOK : Hid (okK (keyT a)) := Lib.hid (HP.out.2.2.2.2.2.2 a (List.mem_of_getElem? HA.out.1))
  obtain ⟨f', hf1, hf2⟩ := hS.2
  obtain ⟨w9, hr9, hm9, hM9⟩ := WMap.del hf1 HOK.out (t := 49) rfl _
  have hm9' : WMap w9 mb (n + 2) (delK F (keyT a)) := by rw [← hf2]; exact hm9
  refine step_run rfl (exec_wdel (m := .tmp 36) (x := .tmp 41) rfl rfl rfl hr9) ?_
  refine hK.out _ _ ⟨hS.1.trans hM9, _, hm9', delK_twice _ _⟩ (fun hS9 => ?_)
  clear hK K hr9 hm9 hf1 hf2
  (try go_frame)
  have HM9 := Lib.hid (hS.1.trans hM9)
  have HW9 := Lib.hid hm9'
  refine wpAnyH_done (by kernel_rfl) ?_ _
  clear hS hS9 hM9 hm9' f'
  have hq9 : QM w9 B qb v' mb (n + 2) ((swp h i L a b).take L) (delK F (keyT a)) := by
    have q := HQ7.out
    exact ⟨q.bq, q.bm, HM9.out.blk q.blk HNE.out.1, q.own.kept HM9.out (fun k hk e => q.vm (by rw [← e]; exact hk)), HW9.out⟩
  have HQ9 := Lib.hid hq9
  have hc9 : Cons ((swp h i L a b).take L) (delK F (keyT a)) := by
    have e := (HP.out.2.1.swap HA.out.1 HA.out.2).cut (a := a) (swp_last HP.out.2.2.1)
    rw [swp_len, ← HL.out, ← HF.out] at e
    exact e
  have hl9 : ((swp h i L a b).take L).length = L := by rw [List.length_take, swp_len]; have := HL.out; omega
  have hp9 : (a :: (swp h i L a b).take L).Perm h := by
    have e := cut_perm HA.out.1 HA.out.2
    rw [← HL.out] at e
    exact e
  have H9 := Lib.hid (And.intro hc9 (And.intro hl9 hp9))
  clear hq9 hc9 hl9 hp9
  have HB4 : Hid (Blk w9 p4 #[.int .u64 0, .int .i64 0, .int .i64 0] 27 ∧ Blk w9 p5 (tmA a) 27) := Lib.hid ⟨HM9.out.blk H7.out.1 (fun e => by have e4 := HP4.out; have := HP.out.1.map.lt; omega), HM9.out.blk H7.out.2.1 HNE.out.2⟩
  have hok9 : OkAll ((swp h i L a b).take L) := fun t ht => HP.out.2.2.2.2.2.2 t (H9.out.2.2.mem_iff.1 (List.mem_cons_of_mem _ ht))
  have HOK9 := Lib.hid hok9
  clear hok9
  have hown : v'.ownBlock = (Value.slice (some ⟨g, 0, none⟩) h.length cap).ownBlock := by rw [HV'.out]; rfl
  have HOW := Lib.hid hown
  have hno : ¬ QS v' mb p4 ∧ ¬ QS v' mb p5 ∧ ¬ p4 = qb := by
    have e4 := HP4.out
    have e5 := H5.out.2
    have := HP.out.1.blk.lt
    have := HP.out.1.map.lt
    have := HQ0.out.map.lt
    obtain ⟨_, cur, hgb⟩ := HP.out.1.own.blk
    have := hgb.lt
    obtain ⟨_, cur, hgb⟩ := HQ0.out.own.blk
    have := hgb.lt
    unfold QS
    rw [hown]
    refine ⟨?_, ?_, by omega⟩
    · rintro (e1 | e1)
      · have e2 : g = p4 := Option.some.inj e1
        omega
      · omega
    · rintro (e1 | e1)
      · have e2 : g = p5 := Option.some.inj e1
        omega
      · omega
  have HNO := Lib.hid hno
  have hM9q : Mod (QB qb (.slice (some ⟨g, 0, none⟩) h.length cap) mb) w w9 := H7.out.2.2.1.trans (HM9.out.mono (fun k _ e => Or.inr (Or.inr e)))
  have HMQ := Lib.hid hM9q
  clear hown hno hM9q
  by_cases hlt : i < L
  · have hlt' : (i : Int) < (L : Int) := by omega
    have HX9 : Hid (HeapEx ((swp h i L a b).take L) i) := Lib.hid (by rw [HL.out]; exact cutL_ex HP.out.2.2.2.2.1)
    have HLT := Lib.hid hlt
    clear hlt
    go_wp2_with (first
      | (go_at_call 28; refine (settle_any HQ9.out H9.out.1 (by rw [H9.out.2.1]; exact HLT.out) (by rw [H9.out.2.1]; omega) HX9.out (by have := HP.out.2.2.2.2.2.1; omega) HOK9.out).mono ?_; rintro e w10 ⟨n2, h2, f2, rfl, hs2, hh2, hn2⟩; have HS2 := Lib.hid (And.intro hs2 (And.intro hh2 hn2)); have HBX := Lib.hid (And.intro (hs2.mod.blk HB4.out.1 HNO.out.1) (hs2.mod.blk HB4.out.2 HNO.out.2.1)); clear hs2 hh2 hn2)
      | ((with_reducible refine wpList_load_blk ?_ 27 (.tmp 5) ?_ p5 ?_ (tmA a) 27 _ HBX.out.2 Try.underlying27 ?_ (size_tm a) ?_); (· exact rfl); (· exact rfl); (· exact rfl); (· exact rfl))
      | ((with_reducible refine wpList_store_blk ?_ 27 (.tmp 4) (.tmp 48) ?_ p4 ?_ _ (tmA a) ?_ 27 HBX.out.1 (size_tm a) ?_ (tmA_one a) ?_); (· exact rfl); (· exact rfl); (· exact rfl); (· exact rfl); (· exact rfl); intro w11 hB11 hM11; have H11 := Lib.hid (And.intro hB11 hM11); clear hB11 hM11)
      | fail)
    refine bodyPost_ret (v := .agg (tmA a)) ?_ rfl ?_
    · exact results_cell rfl _ (by rfl) (blk_loadVar H11.out.1 Try.underlying27 rfl (size_tm a))
    have hS := HS2.out.1
    refine ⟨n2, v', h2, f2, rfl, hS.q.kept H11.out.2 (fun k hk e => HNO.out.1 (Or.inl (by rw [← e]; exact hk))) (fun e => HNO.out.2.2 e.symm) (fun e => HNO.out.1 (Or.inr e.symm)), hS.cons, HS2.out.2.1, (List.Perm.cons a hS.perm).trans H9.out.2.2, HOW.out, ?_, by have := HS2.out.2.2; omega⟩
    refine (HMQ.out.trans (hS.mod.mono (fun k _ e => ?_))).trans' H11.out.2 (fun k hk e => ?_)
    · refine QS.qb k ?_
      unfold QS at e ⊢
      rw [HOW.out] at e
      exact e
    · have e4 := HP4.out
      have e5 : k = p4 := e
      omega
  · have hlt' : ¬ (i : Int) < (L : Int) := by omega
    have hlast : i + 1 = h.length := by have := HP.out.2.2.1; have := HL.out; omega
    have HLT := Lib.hid hlast
    have HBX := HB4
    clear hlt hlast
    go_wp2_with (first
      | ((with_reducible refine wpList_load_blk ?_ 27 (.tmp 5) ?_ p5 ?_ (tmA a) 27 _ HBX.out.2 Try.underlying27 ?_ (size_tm a) ?_); (· exact rfl); (· exact rfl); (· exact rfl); (· exact rfl))
      | ((with_reducible refine wpList_store_blk ?_ 27 (.tmp 4) (.tmp 48) ?_ p4 ?_ _ (tmA a) ?_ 27 HBX.out.1 (size_tm a) ?_ (tmA_one a) ?_); (· exact rfl); (· exact rfl); (· exact rfl); (· exact rfl); (· exact rfl); intro w11 hB11 hM11; have H11 := Lib.hid (And.intro hB11 hM11); clear hB11 hM11)
      | fail)
    refine bodyPost_ret (v := .agg (tmA a)) ?_ rfl ?_
    · exact results_cell rfl _ (by rfl) (blk_loadVar H11.out.1 Try.underlying27 rfl (size_tm a))
    have hS := HQ9.out
    refine ⟨n + 2, v', _, _, rfl, hS.kept H11.out.2 (fun k hk e => HNO.out.1 (Or.inl (by rw [← e]; exact hk))) (fun e => HNO.out.2.2 e.symm) (fun e => HNO.out.1 (Or.inr e.symm)), H9.out.1, ?_, H9.out.2.2, HOW.out, ?_, by omega⟩
    · rw [HL.out]
      exact cutL_last HP.out.2.2.2.2.1 HLT.out
    · refine HMQ.out.trans' H11.out.2 (fun k hk e => ?_)
      have e4 := HP4.out
      have e5 : k = p4 := e
      omega
end Go.Proofs.Ytodcadcapmhgfaa
