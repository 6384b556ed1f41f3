/- The map tells each timer's place; a timer rises: the program's. (printed by geted.py) -/
import Derived.Test.YtodcadcapmhgfaaTeC
namespace Go.Proofs.Ytodcadcapmhgfaa
open Go.RowKit

/-- The map tells each timer's place, and nothing else. -/
structure Cons (h : List Tm) (f : Int × Int → Option Value) : Prop where
  yes : ∀ (i : Nat) (t : Tm), h[i]? = some t → f (keyT t) = some (.int .i64 (i : Int))
  no : ∀ p, (∀ t ∈ h, keyT t ≠ p) → f p = none
theorem Cons.uniq {h : List Tm} {f : Int × Int → Option Value} (c : Cons h f) {i j : Nat} {a b : Tm} (ha : h[i]? = some a) (hb : h[j]? = some b) (hk : keyT a = keyT b) : i = j := by
  have h1 := c.yes i a ha
  have h2 := c.yes j b hb
  rw [hk, h2] at h1
  simp at h1
  omega
theorem Cons.swap {h : List Tm} {f : Int × Int → Option Value} {i k : Nat} {a b : Tm} (c : Cons h f) (ha : h[i]? = some a) (hb : h[k]? = some b) :
    Cons (swp h i k a b) (updK (updK f (keyT b) (.int .i64 (i : Int))) (keyT a) (.int .i64 (k : Int))) := by
  have hi : i < h.length := (List.getElem?_eq_some_iff.1 ha).1
  have hk : k < h.length := (List.getElem?_eq_some_iff.1 hb).1
  refine ⟨fun j t ht => ?_, fun p hp => ?_⟩
  · by_cases hne : i = k
    · subst hne
      rw [ha] at hb
      cases hb
      have e : swp h i i a a = h := by
        unfold swp
        rw [List.set_set]
        apply List.ext_getElem? 
        intro m
        rw [List.getElem?_set]
        by_cases hm : i = m
        · subst hm; rw [if_pos rfl, if_pos hi, ha]
        · rw [if_neg hm]
      rw [e] at ht
      unfold updK
      by_cases ht2 : keyT t = keyT a
      · have := c.uniq ht ha ht2
        subst this
        rw [if_pos ht2]
      · rw [if_neg ht2, if_neg ht2]
        exact c.yes j t ht
    · rw [swp_at hi hk hne] at ht
      unfold updK
      by_cases hj : j = k
      · subst hj
        rw [if_pos rfl] at ht
        cases ht
        rw [if_pos rfl]
      · rw [if_neg hj] at ht
        by_cases hj2 : j = i
        · subst hj2
          rw [if_pos rfl] at ht
          cases ht
          rw [if_neg (fun e => hne (c.uniq ha hb e.symm)), if_pos rfl]
        · rw [if_neg hj2] at ht
          rw [if_neg (fun e => hj2 (c.uniq ht ha e)), if_neg (fun e => hj (c.uniq ht hb e))]
          exact c.yes j t ht
  · have hp' : ∀ t ∈ h, keyT t ≠ p := fun t ht => hp t ((swp_perm ha hb).mem_iff.2 ht)
    unfold updK
    rw [if_neg (fun e => hp' a (List.mem_of_getElem? ha) e.symm), if_neg (fun e => hp' b (List.mem_of_getElem? hb) e.symm)]
    exact c.no p hp'
/-- A heap in memory in the middle of its mending, at place 'i'. -/
structure HS (w0 w : World) (B qb : Nat) (v : Value) (mb n : Nat) (h0 h : List Tm) (f : Int × Int → Option Value) : Prop where
  q : QM w B qb v mb n h f
  perm : h.Perm h0
  cons : Cons h f
  mod : Mod (QS v mb) w0 w
theorem HS.swap {w0 w w' : World} {B qb mb n i k : Nat} {v : Value} {h0 h : List Tm} {f : Int × Int → Option Value} {a b : Tm} (s : HS w0 w B qb v mb n h0 h f) (ha : h[i]? = some a) (hb : h[k]? = some b)
    (q : QM w' B qb v mb (n + 2) (swp h i k a b) (updK (updK f (keyT b) (.int .i64 (i : Int))) (keyT a) (.int .i64 (k : Int)))) (hM : Mod (QS v mb) w w') : HS w0 w' B qb v mb (n + 2) h0 (swp h i k a b) (updK (updK f (keyT b) (.int .i64 (i : Int))) (keyT a) (.int .i64 (k : Int))) :=
  ⟨q, (swp_perm ha hb).trans s.perm, s.cons.swap ha hb, s.mod.trans hM⟩
theorem HS.still {w0 w w' : World} {B qb mb n : Nat} {v : Value} {h0 h : List Tm} {f : Int × Int → Option Value} (s : HS w0 w B qb v mb n h0 h f) (hM : Mod (fun _ => False) w w') : HS w0 w' B qb v mb n h0 h f :=
  ⟨s.q.still hM, s.perm, s.cons, s.mod.trans (hM.mono (fun _ _ h => h.elim))⟩
def OkAll (h : List Tm) : Prop := ∀ t ∈ h, okK (keyT t)
/-- Behind a rising. -/
def UpR (w0 w : World) (B qb : Nat) (v : Value) (mb N : Nat) (h0 : List Tm) (e : Ending) : Prop :=
  ∃ (n i : Nat) (h : List Tm) (f : Int × Int → Option Value), e = .returned (.int .i64 (i : Int)) ∧ HS w0 w B qb v mb n h0 h f ∧ HeapDn h i ∧ i < h.length ∧ n ≤ N
set_option maxHeartbeats 4000000 in
set_option maxRecDepth 10000 in
theorem up_any {w : World} {B qb mb n i : Nat} {v : Value} {h : List Tm} {f : Int × Int → Option Value} (q : QM w B qb v mb n h f) (hc : Cons h f) (hi : i < h.length) (hl : h.length ≤ 200) (hx : HeapEx h i) (hn : n + 400 < maxLen) (hk : OkAll h) :
    Calls Try.prog 35 #[.pointer (some ⟨qb, 0, none⟩), .int .i64 i] w fun e w' => UpR w w' B qb v mb (n + 2 * i) h e := by
  have HP : Hid (HS w w B qb v mb n h h f ∧ i < h.length ∧ h.length ≤ 200 ∧ HeapEx h i ∧ n + 400 < maxLen ∧ OkAll h) := ⟨⟨q, .refl _, hc, Mod.refl _ _⟩, hi, hl, hx, hn, hk⟩
  have hv : ∃ g cap, v = .slice (some ⟨g, 0, none⟩) h.length cap ∧ h.length ≤ cap := by
    obtain ⟨g, cap, hv, hcap, hg, -⟩ := q.own.at (List.getElem?_eq_getElem hi)
    exact ⟨g, cap, hv, hcap⟩
  obtain ⟨g, cap, hv, hcap⟩ := hv
  obtain ⟨L, hL⟩ : ∃ L, L = h.length := ⟨_, rfl⟩
  have hi200 : (i : Int) ≤ 200 := by omega
  rw [← hL] at hv hcap
  have HL := Lib.hid hL
  have HI := Lib.hid hi200
  clear q hc hi hl hx hn hk hL hi200
  subst hv
  go_enter Try.func35, Try.ntmps35
  go_wp2_with fail
  go_loopw [1] (fun s1 wr => ∃ (n1 i1 : Nat) (h1 : List Tm) (f1 : Int × Int → Option Value), s1 = .int .i64 (i1 : Int) ∧ HS w wr B qb (.slice (some ⟨g, 0, none⟩) L cap) mb n1 h h1 f1 ∧ HeapEx h1 i1 ∧ i1 ≤ i ∧ n1 + 2 * i1 ≤ n + 2 * i) (fun s1 _ => (match s1 with | .int _ z => z.toNat | _ => 0))
  case atStart => exact ⟨n, i, h, f, rfl, HP.out.1, HP.out.2.2.2.1, Nat.le_refl _, Nat.le_refl _⟩
  case round =>
    obtain ⟨n1, i1, h1, f1, rfl, hs, hx, hle, hn1⟩ := hrel
    have HLL : Hid (h1.length = L ∧ i1 < h1.length ∧ OkAll h1) := by
      have e := hs.perm.length_eq
      have h1' := HL.out
      have h2 := HP.out.2.1
      exact ⟨by omega, by omega, fun t ht => HP.out.2.2.2.2.2 t (hs.perm.mem_iff.1 ht)⟩
    have HQ := Lib.hid hs
    have HX := Lib.hid hx
    have HN := Lib.hid (And.intro hle hn1)
    have z0 : (0 : Int) ≤ (i1 : Int) := by omega
    have z1 : (i1 : Int) < (L : Int) := by have := HLL.out; omega
    have z2 : (i1 : Int) ≤ 200 := by have := HI.out; omega
    clear hs hx hle hn1
    by_cases h0 : i1 = 0
    · subst h0
      have z3 : (0 : Int) ≤ (L : Int) := by omega
      clear z0 z1 z2
      go_wp2_with fail
      (try go_frame)
      refine wp_region_held_drew (S := fun X => Mod (fun _ => False) wr X) (by kernel_rfl) (Mod.refl _ _).drew (fun hS => ?_)
      refine takeH (i := 0) (v := .int .i64 0) (some 5) rfl rfl (by kernel_rfl) (by kernel_rfl) (by kernel_rfl) (fun _ _ _ h => h) (Or.inl ⟨by rfl, fun X hX => ?_⟩) hS ?_
      · go_simp
      (try go_frame)
      refine takeH (i := 1) (v := .bool false) (some 6) rfl rfl (by kernel_rfl) (by kernel_rfl) (by kernel_rfl) (fun _ _ _ h => h) (Or.inl ⟨by rfl, fun X hX => ?_⟩) hS ?_
      · go_simp
      (try go_frame)
      refine takeH (i := 2) (v := .bool false) (some 7) rfl rfl (by kernel_rfl) (by kernel_rfl) (by kernel_rfl) (fun _ _ _ h => h) (Or.inl ⟨by rfl, fun X hX => ?_⟩) hS ?_
      · go_simp
      (try go_frame)
      refine takeH (i := 3) (v := undef) (some 8) rfl rfl (by kernel_rfl) (by kernel_rfl) (by kernel_rfl) (fun _ _ _ h => h) (Or.inr ⟨by rfl, rfl⟩) hS ?_
      (try go_frame)
      refine takeH (i := 4) (v := undef) (some 9) rfl rfl (by kernel_rfl) (by kernel_rfl) (by kernel_rfl) (fun _ _ _ h => h) (Or.inr ⟨by rfl, rfl⟩) hS ?_
      (try go_frame)
      refine takeH (i := 5) (v := undef) (some 10) rfl rfl (by kernel_rfl) (by kernel_rfl) (by kernel_rfl) (fun _ _ _ h => h) (Or.inr ⟨by rfl, rfl⟩) hS ?_
      (try go_frame)
      refine takeH (i := 6) (v := undef) (some 11) rfl rfl (by kernel_rfl) (by kernel_rfl) (by kernel_rfl) (fun _ _ _ h => h) (Or.inr ⟨by rfl, rfl⟩) hS ?_
      (try go_frame)
      refine takeH (i := 7) (v := undef) (some 12) rfl rfl (by kernel_rfl) (by kernel_rfl) (by kernel_rfl) (fun _ _ _ h => h) (Or.inr ⟨by rfl, rfl⟩) hS ?_
      (try go_frame)
      refine takeH (i := 8) (v := undef) (some 13) rfl rfl (by kernel_rfl) (by kernel_rfl) (by kernel_rfl) (fun _ _ _ h => h) (Or.inr ⟨by rfl, rfl⟩) hS ?_
      (try go_frame)
      refine takeH (i := 9) (v := undef) (some 14) rfl rfl (by kernel_rfl) (by kernel_rfl) (by kernel_rfl) (fun _ _ _ h => h) (Or.inr ⟨by rfl, rfl⟩) hS ?_
      (try go_frame)
      refine takeH (i := 10) (v := undef) (some 15) rfl rfl (by kernel_rfl) (by kernel_rfl) (by kernel_rfl) (fun _ _ _ h => h) (Or.inr ⟨by rfl, rfl⟩) hS ?_
      (try go_frame)
      refine takeH (i := 11) (v := undef) (some 16) rfl rfl (by kernel_rfl) (by kernel_rfl) (by kernel_rfl) (fun _ _ _ h => h) (Or.inr ⟨by rfl, rfl⟩) hS ?_
      (try go_frame)
      refine takeH (i := 12) (v := undef) (some 17) rfl rfl (by kernel_rfl) (by kernel_rfl) (by kernel_rfl) (fun _ _ _ h => h) (Or.inr ⟨by rfl, rfl⟩) hS ?_
      (try go_frame)
      refine takeH (i := 13) (v := undef) (some 18) rfl rfl (by kernel_rfl) (by kernel_rfl) (by kernel_rfl) (fun _ _ _ h => h) (Or.inr ⟨by rfl, rfl⟩) hS ?_
      (try go_frame)
      refine takeH (i := 14) (v := undef) (some 19) rfl rfl (by kernel_rfl) (by kernel_rfl) (by kernel_rfl) (fun _ _ _ h => h) (Or.inr ⟨by rfl, rfl⟩) hS ?_
      (try go_frame)
      refine takeH (i := 15) (v := undef) (some 20) rfl rfl (by kernel_rfl) (by kernel_rfl) (by kernel_rfl) (fun _ _ _ h => h) (Or.inr ⟨by rfl, rfl⟩) hS ?_
      (try go_frame)
      refine takeH (i := 16) (v := undef) (some 21) rfl rfl (by kernel_rfl) (by kernel_rfl) (by kernel_rfl) (fun _ _ _ h => h) (Or.inr ⟨by rfl, rfl⟩) hS ?_
      (try go_frame)
      refine takeH (i := 17) (v := undef) (some 22) rfl rfl (by kernel_rfl) (by kernel_rfl) (by kernel_rfl) (fun _ _ _ h => h) (Or.inr ⟨by rfl, rfl⟩) hS ?_
      (try go_frame)
      refine takeH (i := 18) (v := undef) (some 23) rfl rfl (by kernel_rfl) (by kernel_rfl) (by kernel_rfl) (fun _ _ _ h => h) (Or.inr ⟨by rfl, rfl⟩) hS ?_
      (try go_frame)
      refine takeH (i := 19) (v := undef) (some 24) rfl rfl (by kernel_rfl) (by kernel_rfl) (by kernel_rfl) (fun _ _ _ h => h) (Or.inr ⟨by rfl, rfl⟩) hS ?_
      (try go_frame)
      refine takeH (i := 20) (v := undef) (some 25) rfl rfl (by kernel_rfl) (by kernel_rfl) (by kernel_rfl) (fun _ _ _ h => h) (Or.inr ⟨by rfl, rfl⟩) hS ?_
      (try go_frame)
      refine takeH (i := 21) (v := .bool false) (some 26) rfl rfl (by kernel_rfl) (by kernel_rfl) (by kernel_rfl) (fun _ _ _ h => h) (Or.inl ⟨by rfl, fun X hX => ?_⟩) hS ?_
      · go_simp
      (try go_frame)
      refine wpAnyH_done (by kernel_rfl) ?_ _
      have HQ2 := Lib.hid (HQ.out.still hS)
      clear hS
      go_wp2_with fail
      go_ret
      exact ⟨n1, 0, h1, f1, rfl, HQ2.out, ⟨HX.out, fun a b h => absurd h (by decide)⟩, HLL.out.2.1, by have := HN.out; omega⟩
    · obtain ⟨m, hm⟩ : ∃ m, m = (i1 - 1) / 2 := ⟨_, rfl⟩
      have hmi : m < i1 := by omega
      obtain ⟨x, hx⟩ : ∃ x, h1[i1]? = some x := ⟨_, List.getElem?_eq_getElem HLL.out.2.1⟩
      obtain ⟨y, hy⟩ : ∃ y, h1[m]? = some y := ⟨_, List.getElem?_eq_getElem (by have := HLL.out; omega)⟩
      have z3 : decide ((0 : Int) < (i1 : Int)) = true := by simp; omega
      have z3' : decide (0 < i1) = true := by simp; omega
      have z4 : (0 : Int) ≤ (m : Int) := by omega
      have z5 : (m : Int) < (L : Int) := by omega
      have HXY : Hid (h1[i1]? = some x ∧ h1[m]? = some y ∧ m = (i1 - 1) / 2 ∧ 0 < i1 ∧ m < i1) := ⟨hx, hy, hm, by omega, hmi⟩
      have HW1 : Hid (IntKind.i64.wrap ((i1 : Int) - 1) = (i1 : Int) - 1 ∧ IntKind.i64.wrap (((i1 : Int) - 1).tdiv 2) = (m : Int)) := by
        have e : ((i1 : Int) - 1).tdiv 2 = (m : Int) := by rw [Int.tdiv_eq_ediv_of_nonneg (by omega)]; omega
        rw [e]
        exact ⟨IntWalk.i64_in _ (by omega), IntWalk.i64_in _ (by omega)⟩
      have HR : Hid (wr.rangeAt g (i1 * 3) (tmL x) ∧ wr.rangeAt g (m * 3) (tmL y)) := by
        obtain ⟨g2, cap2, hv2, -, -, hra⟩ := HQ.out.q.own.at hx
        obtain ⟨g3, cap3, hv3, -, -, hrb⟩ := HQ.out.q.own.at hy
        simp only [Value.slice.injEq, Option.some.injEq, Addr.mk.injEq, and_true] at hv2 hv3
        obtain ⟨rfl, -, -⟩ := hv2
        obtain ⟨rfl, -, -⟩ := hv3
        exact ⟨hra, hrb⟩
      clear hm hx hy hmi h0
      go_wp2_with fail
      (try go_frame)
      refine wp_region_held_drew (S := fun X => Mod (fun _ => False) wr X) (by kernel_rfl) (Mod.refl _ _).drew (fun hS => ?_)
      refine takeH (i := 0) (v := .int .i64 i1) (some 5) rfl rfl (by kernel_rfl) (by kernel_rfl) (by kernel_rfl) (fun _ _ _ h => h) (Or.inl ⟨by rfl, fun X hX => ?_⟩) hS ?_
      · go_simp
      (try go_frame)
      refine takeH (i := 1) (v := .bool true) (some 6) rfl rfl (by kernel_rfl) (by kernel_rfl) (by kernel_rfl) (fun _ _ _ h => h) (Or.inl ⟨by rfl, fun X hX => ?_⟩) hS ?_
      · go_simp
      (try go_frame)
      refine takeH (i := 2) (v := .bool true) (some 7) rfl rfl (by kernel_rfl) (by kernel_rfl) (by kernel_rfl) (fun _ _ _ h => h) (Or.inl ⟨by rfl, fun X hX => ?_⟩) hS ?_
      · go_simp
      (try go_frame)
      refine takeH (i := 3) (v := .pointer (some ⟨qb, 0, none⟩)) (some 8) rfl rfl (by kernel_rfl) (by kernel_rfl) (by kernel_rfl) (fun _ _ _ h => h) (Or.inl ⟨by rfl, fun X hX => ?_⟩) hS ?_
      · go_simp
      (try go_frame)
      refine takeH (i := 4) (v := .pointer (some ⟨qb, 0, none⟩)) (some 9) rfl rfl (by kernel_rfl) (by kernel_rfl) (by kernel_rfl) (fun _ _ _ h => h) (Or.inl ⟨by rfl, fun X hX => ?_⟩) hS ?_
      · go_simp
      (try go_frame)
      refine takeH (i := 5) (v := .pointer (some ⟨qb, 0, none⟩)) (some 10) rfl rfl (by kernel_rfl) (by kernel_rfl) (by kernel_rfl) (fun _ _ _ h => h) (Or.inl ⟨by rfl, fun X hX => ?_⟩) hS ?_
      · go_simp
      (try go_frame)
      refine takeH (i := 6) (v := .slice (some ⟨g, 0, none⟩) L cap) (some 11) rfl rfl (by kernel_rfl) (by kernel_rfl) (by kernel_rfl) (fun _ _ _ h => h) (Or.inl ⟨by rfl, fun X hX => ?_⟩) hS ?_
      · have c := hX.cellAt (HQ.out.q.blk.cellAt 0 rfl) (fun e => e); go_simp
      (try go_frame)
      refine takeH (i := 7) (v := .int .i64 i1) (some 12) rfl rfl (by kernel_rfl) (by kernel_rfl) (by kernel_rfl) (fun _ _ _ h => h) (Or.inl ⟨by rfl, fun X hX => ?_⟩) hS ?_
      · go_simp
      (try go_frame)
      refine takeH (i := 8) (v := .pointer (some ⟨g, i1 * 3, none⟩)) (some 13) rfl rfl (by kernel_rfl) (by kernel_rfl) (by kernel_rfl) (fun _ _ _ h => h) (Or.inl ⟨by rfl, fun X hX => ?_⟩) hS ?_
      · go_simp
      (try go_frame)
      refine takeH (i := 9) (v := .agg (tmA x)) (some 14) rfl rfl (by kernel_rfl) (by kernel_rfl) (by kernel_rfl) (fun _ _ _ h => h) (Or.inl ⟨by rfl, fun X hX => ?_⟩) hS ?_
      · exact exec_load' (x := .tmp 13) rfl rfl (tm_load (fun j u hu => hX.cellAt (HR.out.1 j u hu) (fun e => e)))
      (try go_frame)
      refine takeH (i := 10) (v := .pointer (some ⟨qb, 0, none⟩)) (some 15) rfl rfl (by kernel_rfl) (by kernel_rfl) (by kernel_rfl) (fun _ _ _ h => h) (Or.inl ⟨by rfl, fun X hX => ?_⟩) hS ?_
      · go_simp
      (try go_frame)
      refine takeH (i := 11) (v := .pointer (some ⟨qb, 0, none⟩)) (some 16) rfl rfl (by kernel_rfl) (by kernel_rfl) (by kernel_rfl) (fun _ _ _ h => h) (Or.inl ⟨by rfl, fun X hX => ?_⟩) hS ?_
      · go_simp
      (try go_frame)
      refine takeH (i := 12) (v := .pointer (some ⟨qb, 0, none⟩)) (some 17) rfl rfl (by kernel_rfl) (by kernel_rfl) (by kernel_rfl) (fun _ _ _ h => h) (Or.inl ⟨by rfl, fun X hX => ?_⟩) hS ?_
      · go_simp
      (try go_frame)
      refine takeH (i := 13) (v := .slice (some ⟨g, 0, none⟩) L cap) (some 18) rfl rfl (by kernel_rfl) (by kernel_rfl) (by kernel_rfl) (fun _ _ _ h => h) (Or.inl ⟨by rfl, fun X hX => ?_⟩) hS ?_
      · have c := hX.cellAt (HQ.out.q.blk.cellAt 0 rfl) (fun e => e); go_simp
      (try go_frame)
      refine takeH (i := 14) (v := .int .i64 i1) (some 19) rfl rfl (by kernel_rfl) (by kernel_rfl) (by kernel_rfl) (fun _ _ _ h => h) (Or.inl ⟨by rfl, fun X hX => ?_⟩) hS ?_
      · go_simp
      (try go_frame)
      refine takeH (i := 15) (v := .int .i64 ((i1 : Int) - 1)) (some 20) rfl rfl (by kernel_rfl) (by kernel_rfl) (by kernel_rfl) (fun _ _ _ h => h) (Or.inl ⟨by rfl, fun X hX => ?_⟩) hS ?_
      · go_simp; exact HW1.out.1
      (try go_frame)
      refine takeH (i := 16) (v := .int .i64 m) (some 21) rfl rfl (by kernel_rfl) (by kernel_rfl) (by kernel_rfl) (fun _ _ _ h => h) (Or.inl ⟨by rfl, fun X hX => ?_⟩) hS ?_
      · go_simp; exact HW1.out.2
      (try go_frame)
      refine takeH (i := 17) (v := .pointer (some ⟨g, m * 3, none⟩)) (some 22) rfl rfl (by kernel_rfl) (by kernel_rfl) (by kernel_rfl) (fun _ _ _ h => h) (Or.inl ⟨by rfl, fun X hX => ?_⟩) hS ?_
      · go_simp
      (try go_frame)
      refine takeH (i := 18) (v := .agg (tmA y)) (some 23) rfl rfl (by kernel_rfl) (by kernel_rfl) (by kernel_rfl) (fun _ _ _ h => h) (Or.inl ⟨by rfl, fun X hX => ?_⟩) hS ?_
      · exact exec_load' (x := .tmp 22) rfl rfl (tm_load (fun j u hu => hX.cellAt (HR.out.2 j u hu) (fun e => e)))
      (try go_frame)
      refine wpAnyH_ready (rs := [19]) (by kernel_rfl) (by simp) ?_
      refine AllReadyH.cons (o := ⟨some 24, _, _, _, _, some (2, true)⟩) rfl (fun K hK => ?_) AllReadyH.nil
      go_simp
      refine (ahead_any x y _).mono ?_
      rintro e w24 ⟨rfl, hM24⟩
      refine hK.out _ _ (hS.trans hM24) (fun hS => ?_)
      clear hK K
      clear hM24
      (try go_frame)
      obtain ⟨c, hc⟩ : ∃ c, c = ahd x y := ⟨_, rfl⟩
      have HC := Lib.hid hc
      clear hc
      refine takeH (i := 20) (v := .bool c) (some 25) rfl rfl (by kernel_rfl) (by kernel_rfl) (by kernel_rfl) (fun _ _ _ h => h) (Or.inl ⟨by rfl, fun X hX => ?_⟩) hS ?_
      · go_simp; rw [HC.out]; exact ahdZ_neg x y
      (try go_frame)
      refine takeH (i := 21) (v := .bool c) (some 26) rfl rfl (by kernel_rfl) (by kernel_rfl) (by kernel_rfl) (fun _ _ _ h => h) (Or.inl ⟨by rfl, fun X hX => ?_⟩) hS ?_
      · go_simp
      (try go_frame)
      refine wpAnyH_done (by kernel_rfl) ?_ _
      have HQ2 := Lib.hid (HQ.out.still hS)
      clear hS
      cases c
      · go_wp2_with fail
        go_ret
        exact ⟨n1, i1, h1, f1, rfl, HQ2.out, ⟨HX.out, fun a b h3 h4 h5 => by
          obtain ⟨e1, e2, e3, -⟩ := HXY.out
          rw [e1] at h4
          rw [← e3, e2] at h5
          cases h4
          cases h5
          exact HC.out.symm⟩, HLL.out.2.1, by have := HN.out; omega⟩
      · have hw1 := HW1.out.1
        have hw2 := HW1.out.2
        have HKK : Hid (okK (keyT x) ∧ okK (keyT y) ∧ n1 + 1 < maxLen) := ⟨HLL.out.2.2 x (List.mem_of_getElem? HXY.out.1), HLL.out.2.2 y (List.mem_of_getElem? HXY.out.2.1), by have := HP.out.2.2.2.2.1; have := HP.out.2.2.1; have := HN.out; have := HI.out; have := HXY.out.2.2.2.1; omega⟩
        go_wp2_with (first
          | (go_at_call 33; refine (swap_any HQ2.out.q HXY.out.1 HXY.out.2.1 HKK.out.2.2 HKK.out.1 HKK.out.2.1).mono ?_; rintro e w32 ⟨rfl, hq3, hM3⟩; have HQ3 := Lib.hid (HQ2.out.swap HXY.out.1 HXY.out.2.1 hq3 hM3); clear hq3 hM3)
          | fail)
        go_roundw
        case rel => 
          obtain ⟨e1, e2, e3, e4, e5⟩ := HXY.out
          refine ⟨n1 + 2, m, _, _, by first | rfl | go_num, HQ3.out, ?_, by have := HN.out; omega, by have := HN.out; omega⟩
          subst e3
          exact HX.out.up e4 e1 e2
        case measure =>
          have := HXY.out
          simp
          omega
end Go.Proofs.Ytodcadcapmhgfaa
