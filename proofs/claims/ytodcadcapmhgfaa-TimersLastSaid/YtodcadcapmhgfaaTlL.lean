/- TimersLast's walk. (printed by genlaw12.py) -/
import Derived.Test.YtodcadcapmhgfaaTlB
import Derived.IntWalk
namespace Go.Proofs.Ytodcadcapmhgfaa
open Go.RowKit

set_option maxHeartbeats 4000000 in
set_option maxRecDepth 10000 in
theorem last_any {w : World} {v : Value} {l : List Tm} (hv : TmV w v l) (hok : ∀ t ∈ l, okTm t) :
    Calls Try.prog 5 #[v] w fun e w' => e = .returned (.bool true) ∧ Below w.heap.size w w' := by
  have HV := Lib.hid hv
  have HOK := Lib.hid hok
  obtain ⟨a, cap, rfl, hcap, hmax, -⟩ := hv.val
  obtain ⟨m, hm⟩ : ∃ m, m = l.length := ⟨_, rfl⟩
  rw [← hm] at HV hcap ⊢
  have HM := Lib.hid hm
  clear hv hok hm hcap hmax
  by_cases h150 : (150 : Int) < (m : Int)
  · go_enter Try.func5, Try.ntmps5
    go_wp2_with (first | (go_at_call 9; (with_reducible refine (alive_any _).mono ?_); rintro e w1 ⟨rfl, hM1⟩; have HM1 := Lib.hid hM1; clear hM1) | fail)
    go_ret
    exact ⟨rfl, HM1.out.below (Nat.le_refl _) (fun _ _ h => h.elim)⟩
  have hm150 : (m : Int) ≤ 150 := by omega
  clear h150
  go_enter Try.func5, Try.ntmps5
  go_wp2_with (first | (go_at_call 9; (with_reducible refine (alive_any _).mono ?_); rintro e w1 ⟨rfl, hM1⟩; have HM1 := Lib.hid hM1; clear hM1) | (go_at_call 18; (with_reducible refine (lq_new w1).mono ?_); rintro e w2 ⟨qb, mb, rfl, hq2, hqb⟩; have HQ2 := Lib.hid hq2; have HQB := Lib.hid hqb; clear hq2 hqb) | fail)
  go_loopw [4] (fun s1 wr => ∃ (i : Nat), s1 = .int .i64 (i : Int) ∧ i ≤ m ∧ Hid (LQ w1 wr qb mb (1000 * i) (setAll (l.take i) []) noF)) (fun s1 _ => m - (match s1 with | .int _ z => z.toNat | _ => 0))
  case atStart => exact ⟨0, rfl, Nat.zero_le _, HQ2.out⟩
  case round =>
    obtain ⟨i, rfl, hi, HS⟩ := hrel
    have i0 : (0 : Int) ≤ (i : Int) := by omega
    have HI := Lib.hid hi
    by_cases hlt : i < m
    · have i1 : (i : Int) < (m : Int) := by omega
      obtain ⟨x, hx⟩ : ∃ x, l[i]? = some x := ⟨_, List.getElem?_eq_getElem (by have := HM.out; omega)⟩
      obtain ⟨b, off, cap2, hv1, hr⟩ := HV.out.at hx
      simp only [Value.slice.injEq] at hv1
      obtain ⟨rfl, -, -⟩ := hv1
      have HR := Lib.hid hr
      have HC := Lib.hid (TmC.of hr)
      have HX := Lib.hid hx
      have HKX : Hid (okTm x) := Lib.hid (HOK.out x (List.mem_of_getElem? hx))
      have hset : setAll (l.take (i + 1)) [] = (setT x (setAll (l.take i) [])).2 := by rw [List.take_add_one, hx]; exact setAll_snoc _ _ _
      have HSET := Lib.hid hset
      have HN : Hid (1000 * i ≤ 1000000000) := Lib.hid (by omega)
      have hlen : (setAll (l.take i) []).length < 200 := by
        have := (setAll_ok (l.take i) (L := []) QL.nil (fun t ht => (HOK.out t (List.mem_of_mem_take ht)).1)).2
        rw [List.length_take] at this
        simp at this
        omega
      have HTR := Lib.hid (set_true (x := x) hlen)
      have HAT : Hid (((atN x.c x.k (setT x (setAll (l.take i) [])).2 : Nat) : Int) = (x.t : Int)) := Lib.hid (by rw [at_set_same HS.out.l HKX.out.1 (by rw [HTR.out])])
      clear hr hx hset hi hlt hlen
      go_upto_region 9 with fail
      refine wp_region_held_drew (S := fun X => Mod (fun _ => False) w X) (by kernel_rfl) (HM1.out.trans HS.out.m).drew (fun hS => ?_)
      refine' takeH (i := 0) (v := _) (some 20) rfl rfl (by kernel_rfl) (by kernel_rfl) (by kernel_rfl) (fun _ _ _ h => h) (Or.inl ⟨by rfl, fun X hX => ?_⟩) hS ?_
      rotate_left
      · go_simp; exact rfl
      (try go_frame)
      refine' takeH (i := 1) (v := _) (some 21) rfl rfl (by kernel_rfl) (by kernel_rfl) (by kernel_rfl) (fun _ _ _ h => h) (Or.inl ⟨by rfl, fun X hX => ?_⟩) hS ?_
      rotate_left
      · go_simp; exact rfl
      (try go_frame)
      refine' takeH (i := 2) (v := _) (some 22) rfl rfl (by kernel_rfl) (by kernel_rfl) (by kernel_rfl) (fun _ _ _ h => h) (Or.inl ⟨by rfl, fun X hX => ?_⟩) hS ?_
      rotate_left
      · go_simp; exact rfl
      (try go_frame)
      refine' takeH (i := 3) (v := _) (some 23) rfl rfl (by kernel_rfl) (by kernel_rfl) (by kernel_rfl) (fun _ _ _ h => h) (Or.inl ⟨by rfl, fun X hX => ?_⟩) hS ?_
      rotate_left
      · go_simp; exact rfl
      (try go_frame)
      refine takeH (i := 4) (v := .agg (tmA x)) (some 24) rfl rfl (by kernel_rfl) (by kernel_rfl) (by kernel_rfl) (fun _ _ _ h => h) (Or.inl ⟨by rfl, fun X hX => ?_⟩) hS ?_
      · exact exec_tm (x := .tmp 23) (g := b) (o := off + i * 3) (t := x) rfl rfl (fun j u hu => hX.cellAt (HR.out j u hu) (fun e => e))
      (try go_frame)
      refine wpAnyH_ready (rs := [5]) (by kernel_rfl) (by simp) ?_
      refine (AllReadyH.cons (o := ⟨some 25, _, _, _, _, none⟩) rfl (fun K hK => ?_) AllReadyH.nil)
      go_simp
      refine (lq_setA (tmA x) x rfl (HS.out.still (Mod.refl _ _).drew) HKX.out HN.out true (setT x (setAll (l.take i) [])).2 HTR.out).mono ?_
      rintro e w25 ⟨rfl, hq25, -⟩
      have HQ25 := Lib.hid hq25
      refine hK.out _ _ (HM1.out.trans hq25.m) (fun hS => ?_)
      clear hK K hq25
      (try go_frame)
      refine' takeH (i := 6) (v := _) (some 26) rfl rfl (by kernel_rfl) (by kernel_rfl) (by kernel_rfl) (fun _ _ _ h => h) (Or.inl ⟨by rfl, fun X hX => ?_⟩) hS ?_
      rotate_left
      · go_simp; exact rfl
      (try go_frame)
      refine' takeH (i := 7) (v := _) (some 27) rfl rfl (by kernel_rfl) (by kernel_rfl) (by kernel_rfl) (fun _ _ _ h => h) (Or.inl ⟨by rfl, fun X hX => ?_⟩) hS ?_
      rotate_left
      · go_simp; exact rfl
      (try go_frame)
      refine' takeH (i := 8) (v := _) (some 28) rfl rfl (by kernel_rfl) (by kernel_rfl) (by kernel_rfl) (fun _ _ _ h => h) (Or.inl ⟨by rfl, fun X hX => ?_⟩) hS ?_
      rotate_left
      · go_simp; exact rfl
      (try go_frame)
      refine' takeH (i := 9) (v := _) (some 29) rfl rfl (by kernel_rfl) (by kernel_rfl) (by kernel_rfl) (fun _ _ _ h => h) (Or.inl ⟨by rfl, fun X hX => ?_⟩) hS ?_
      rotate_left
      · go_simp; exact rfl
      (try go_frame)
      refine' takeH (i := 10) (v := _) (some 30) rfl rfl (by kernel_rfl) (by kernel_rfl) (by kernel_rfl) (fun _ _ _ h => h) (Or.inl ⟨by rfl, fun X hX => ?_⟩) hS ?_
      rotate_left
      · go_simp; exact rfl
      (try go_frame)
      refine' takeH (i := 11) (v := _) (some 31) rfl rfl (by kernel_rfl) (by kernel_rfl) (by kernel_rfl) (fun _ _ _ h => h) (Or.inl ⟨by rfl, fun X hX => ?_⟩) hS ?_
      rotate_left
      · go_simp; exact rfl
      (try go_frame)
      refine' takeH (i := 12) (v := _) (some 32) rfl rfl (by kernel_rfl) (by kernel_rfl) (by kernel_rfl) (fun _ _ _ h => h) (Or.inl ⟨by rfl, fun X hX => ?_⟩) hS ?_
      rotate_left
      · go_simp; exact rfl
      (try go_frame)
      refine' takeH (i := 13) (v := _) (some 33) rfl rfl (by kernel_rfl) (by kernel_rfl) (by kernel_rfl) (fun _ _ _ h => h) (Or.inl ⟨by rfl, fun X hX => ?_⟩) hS ?_
      rotate_left
      · have c := hX.cellAt HC.out.2.1 (fun e => e); go_simp; exact rfl
      (try go_frame)
      refine' takeH (i := 14) (v := _) (some 34) rfl rfl (by kernel_rfl) (by kernel_rfl) (by kernel_rfl) (fun _ _ _ h => h) (Or.inl ⟨by rfl, fun X hX => ?_⟩) hS ?_
      rotate_left
      · go_simp; exact rfl
      (try go_frame)
      refine' takeH (i := 15) (v := _) (some 35) rfl rfl (by kernel_rfl) (by kernel_rfl) (by kernel_rfl) (fun _ _ _ h => h) (Or.inl ⟨by rfl, fun X hX => ?_⟩) hS ?_
      rotate_left
      · go_simp; exact rfl
      (try go_frame)
      refine' takeH (i := 16) (v := _) (some 36) rfl rfl (by kernel_rfl) (by kernel_rfl) (by kernel_rfl) (fun _ _ _ h => h) (Or.inl ⟨by rfl, fun X hX => ?_⟩) hS ?_
      rotate_left
      · go_simp; exact rfl
      (try go_frame)
      refine' takeH (i := 17) (v := _) (some 37) rfl rfl (by kernel_rfl) (by kernel_rfl) (by kernel_rfl) (fun _ _ _ h => h) (Or.inl ⟨by rfl, fun X hX => ?_⟩) hS ?_
      rotate_left
      · go_simp; exact rfl
      (try go_frame)
      refine' takeH (i := 18) (v := _) (some 38) rfl rfl (by kernel_rfl) (by kernel_rfl) (by kernel_rfl) (fun _ _ _ h => h) (Or.inl ⟨by rfl, fun X hX => ?_⟩) hS ?_
      rotate_left
      · have c := hX.cellAt HC.out.2.2 (fun e => e); go_simp; exact rfl
      (try go_frame)
      refine' takeH (i := 20) (v := _) (some 40) rfl rfl (by kernel_rfl) (by kernel_rfl) (by kernel_rfl) (fun _ _ _ h => h) (Or.inl ⟨by rfl, fun X hX => ?_⟩) hS ?_
      rotate_left
      · go_simp; exact rfl
      (try go_frame)
      refine' takeH (i := 21) (v := _) (some 41) rfl rfl (by kernel_rfl) (by kernel_rfl) (by kernel_rfl) (fun _ _ _ h => h) (Or.inl ⟨by rfl, fun X hX => ?_⟩) hS ?_
      rotate_left
      · go_simp; exact rfl
      (try go_frame)
      refine' takeH (i := 22) (v := _) (some 42) rfl rfl (by kernel_rfl) (by kernel_rfl) (by kernel_rfl) (fun _ _ _ h => h) (Or.inl ⟨by rfl, fun X hX => ?_⟩) hS ?_
      rotate_left
      · go_simp; exact rfl
      (try go_frame)
      refine' takeH (i := 23) (v := _) (some 43) rfl rfl (by kernel_rfl) (by kernel_rfl) (by kernel_rfl) (fun _ _ _ h => h) (Or.inl ⟨by rfl, fun X hX => ?_⟩) hS ?_
      rotate_left
      · go_simp; exact rfl
      (try go_frame)
      refine' takeH (i := 24) (v := _) (some 44) rfl rfl (by kernel_rfl) (by kernel_rfl) (by kernel_rfl) (fun _ _ _ h => h) (Or.inl ⟨by rfl, fun X hX => ?_⟩) hS ?_
      rotate_left
      · have c := hX.cellAt HC.out.1 (fun e => e); go_simp; exact rfl
      (try go_frame)
      refine wpAnyH_ready (rs := [19]) (by kernel_rfl) (by simp) ?_
      refine (AllReadyH.cons (o := ⟨some 39, _, _, _, _, some (7, false)⟩) rfl (fun K hK => ?_) AllReadyH.nil)
      go_simp
      refine (lq_atA (x.t : Int) x.c x.k HQ25.out HKX.out.2 HAT.out).mono ?_
      rintro e w39 ⟨rfl, rfl⟩
      refine hK.out _ _ hS (fun hS => ?_)
      clear hK K
      (try go_frame)
      refine' takeH (i := 25) (v := _) (some 45) rfl rfl (by kernel_rfl) (by kernel_rfl) (by kernel_rfl) (fun _ _ _ h => h) (Or.inl ⟨by rfl, fun X hX => ?_⟩) hS ?_
      rotate_left
      · go_simp; exact rfl
      (try go_frame)
      refine' takeH (i := 26) (v := _) (some 46) rfl rfl (by kernel_rfl) (by kernel_rfl) (by kernel_rfl) (fun _ _ _ h => h) (Or.inl ⟨by rfl, fun X hX => ?_⟩) hS ?_
      rotate_left
      · go_simp; exact rfl
      (try go_frame)
      refine wpAnyH_done (by kernel_rfl) ?_ _
      clear hS
      go_wp2_with fail
      go_roundw
      case rel => exact ⟨i + 1, by go_num, by have := HI.out; omega, by rw [HSET.out]; exact Lib.hid (HQ25.out.more (by omega))⟩
      case measure => simp; omega
    · have i1 : ¬ (i : Int) < (m : Int) := by omega
      obtain rfl : i = m := by omega
      clear hlt hi
      have hq3 : LQ w1 wr qb mb (1000 * i) (setAll l []) noF := by
        have e : l.take i = l := List.take_of_length_le (by have := HM.out; omega)
        have h1 := HS.out
        rw [e] at h1
        exact h1
      have HQ3 := Lib.hid hq3
      clear hq3 HS
      go_wp2_with fail
      go_loopw [5] (fun s5 wr => ∃ (j : Nat), s5 = .int .i64 (j : Int) ∧ j ≤ i ∧ Hid (LQ w1 wr qb mb (1000 * i) (setAll l []) noF)) (fun s5 _ => i - (match s5 with | .int _ z => z.toNat | _ => 0))
      case atStart => exact ⟨0, rfl, Nat.zero_le _, HQ3⟩
      case round =>
        obtain ⟨j, rfl, hj, HS⟩ := hrel
        have j0 : (0 : Int) ≤ (j : Int) := by omega
        have HJ := Lib.hid hj
        by_cases hlt : j < i
        · have j1 : (j : Int) < (i : Int) := by omega
          obtain ⟨x, hx⟩ : ∃ x, l[j]? = some x := ⟨_, List.getElem?_eq_getElem (by have := HM.out; omega)⟩
          obtain ⟨b, off, cap2, hv1, hr⟩ := HV.out.at hx
          simp only [Value.slice.injEq] at hv1
          obtain ⟨rfl, -, -⟩ := hv1
          have HC := Lib.hid (TmC.of hr)
          have HX := Lib.hid hx
          have HKX : Hid (okTm x) := Lib.hid (HOK.out x (List.mem_of_getElem? hx))
          have d0 : wr.cell? ⟨b, off + j * 3, none⟩ = some (.int .u64 (x.t : Int)) := (HM1.out.trans HS.out.m).cellAt HC.out.1 (fun e => e)
          have HJ1 : Hid (j + 1 ≤ i) := Lib.hid (by omega)
          clear hr hx hj hlt
          go_wp2_with fail
          clear d0
          go_loopw [6, 7] (fun s6 s7 wr => ∃ (k wn : Nat), s6 = .int .u64 (wn : Int) ∧ s7 = .int .i64 (k : Int) ∧ j + 1 ≤ k ∧ k ≤ i ∧ Hid (wn = wantN x x.t ((l.take k).drop (j + 1)) ∧ LQ w1 wr qb mb (1000 * i) (setAll l []) noF)) (fun _ s7 _ => i - (match s7 with | .int _ z => z.toNat | _ => 0))
          case atStart => exact ⟨j + 1, x.t, rfl, by go_num, Nat.le_refl _, HJ1.out, Lib.hid ⟨by rw [List.drop_of_length_le (by rw [List.length_take]; omega)]; rfl, HS.out⟩⟩
          case round =>
            obtain ⟨k, wn, rfl, rfl, hk1, hk2, HT⟩ := hrel
            have k0 : (0 : Int) ≤ (k : Int) := by omega
            have HK := Lib.hid (And.intro hk1 hk2)
            by_cases hlt : k < i
            · have k1 : (k : Int) < (i : Int) := by omega
              obtain ⟨y, hy⟩ : ∃ y, l[k]? = some y := ⟨_, List.getElem?_eq_getElem (by have := HM.out; omega)⟩
              obtain ⟨b2, off2, cap3, hv2, hr2⟩ := HV.out.at hy
              simp only [Value.slice.injEq, Option.some.injEq, Addr.mk.injEq, and_true] at hv2
              obtain ⟨⟨rfl, rfl⟩, -⟩ := hv2
              have HD := Lib.hid (TmC.of hr2)
              have HW := Lib.hid (want_step (x := x) hk1 hy)
              clear hr2 hy hk1 hk2 hlt
              by_cases hc : y.c = x.c
              · have q1 : (y.c == x.c) = true := by simp [hc]
                by_cases hkk : y.k = x.k
                · have q2 : (y.k == x.k) = true := by simp [hkk]
                  have HKE : Hid (keyT y = keyT x) := Lib.hid (by unfold keyT; rw [hc, hkk])
                  have d0 : wr.cell? ⟨b, off + k * 3, none⟩ = some (.int .u64 (y.t : Int)) := (HM1.out.trans HT.out.2.m).cellAt HD.out.1 (fun e => e)
                  clear hc hkk
                  go_upto_region 18 with fail
                  refine wp_region_held_drew (S := fun X => Mod (fun _ => False) w X) (by kernel_rfl) (HM1.out.trans HT.out.2.m).drew (fun hS => ?_)
                  refine' takeH (i := 0) (v := _) (some 66) rfl rfl (by kernel_rfl) (by kernel_rfl) (by kernel_rfl) (fun _ _ _ h => h) (Or.inl ⟨by rfl, fun X hX => ?_⟩) hS ?_
                  rotate_left
                  · go_simp; exact rfl
                  (try go_frame)
                  refine' takeH (i := 1) (v := _) (some 67) rfl rfl (by kernel_rfl) (by kernel_rfl) (by kernel_rfl) (fun _ _ _ h => h) (Or.inl ⟨by rfl, fun X hX => ?_⟩) hS ?_
                  rotate_left
                  · go_simp; exact rfl
                  (try go_frame)
                  refine' takeH (i := 2) (v := _) (some 68) rfl rfl (by kernel_rfl) (by kernel_rfl) (by kernel_rfl) (fun _ _ _ h => h) (Or.inl ⟨by rfl, fun X hX => ?_⟩) hS ?_
                  rotate_left
                  · go_simp; exact rfl
                  (try go_frame)
                  refine' takeH (i := 3) (v := _) (some 69) rfl rfl (by kernel_rfl) (by kernel_rfl) (by kernel_rfl) (fun _ _ _ h => h) (Or.inl ⟨by rfl, fun X hX => ?_⟩) hS ?_
                  rotate_left
                  · go_simp; exact rfl
                  (try go_frame)
                  refine' takeH (i := 4) (v := _) (some 70) rfl rfl (by kernel_rfl) (by kernel_rfl) (by kernel_rfl) (fun _ _ _ h => h) (Or.inl ⟨by rfl, fun X hX => ?_⟩) hS ?_
                  rotate_left
                  · have c := hX.cellAt HD.out.2.1 (fun e => e); go_simp; exact rfl
                  (try go_frame)
                  refine' takeH (i := 5) (v := _) (some 71) rfl rfl (by kernel_rfl) (by kernel_rfl) (by kernel_rfl) (fun _ _ _ h => h) (Or.inl ⟨by rfl, fun X hX => ?_⟩) hS ?_
                  rotate_left
                  · go_simp; exact rfl
                  (try go_frame)
                  refine' takeH (i := 6) (v := _) (some 72) rfl rfl (by kernel_rfl) (by kernel_rfl) (by kernel_rfl) (fun _ _ _ h => h) (Or.inl ⟨by rfl, fun X hX => ?_⟩) hS ?_
                  rotate_left
                  · go_simp; exact rfl
                  (try go_frame)
                  refine' takeH (i := 7) (v := _) (some 73) rfl rfl (by kernel_rfl) (by kernel_rfl) (by kernel_rfl) (fun _ _ _ h => h) (Or.inl ⟨by rfl, fun X hX => ?_⟩) hS ?_
                  rotate_left
                  · go_simp; exact rfl
                  (try go_frame)
                  refine' takeH (i := 8) (v := _) (some 74) rfl rfl (by kernel_rfl) (by kernel_rfl) (by kernel_rfl) (fun _ _ _ h => h) (Or.inl ⟨by rfl, fun X hX => ?_⟩) hS ?_
                  rotate_left
                  · go_simp; exact rfl
                  (try go_frame)
                  refine' takeH (i := 9) (v := _) (some 75) rfl rfl (by kernel_rfl) (by kernel_rfl) (by kernel_rfl) (fun _ _ _ h => h) (Or.inl ⟨by rfl, fun X hX => ?_⟩) hS ?_
                  rotate_left
                  · have c := hX.cellAt HC.out.2.1 (fun e => e); go_simp; exact rfl
                  (try go_frame)
                  refine' takeH (i := 10) (v := _) (some 76) rfl rfl (by kernel_rfl) (by kernel_rfl) (by kernel_rfl) (fun _ _ _ h => h) (Or.inl ⟨by rfl, fun X hX => ?_⟩) hS ?_
                  rotate_left
                  · go_simp; exact rfl
                  (try go_frame)
                  refine' takeH (i := 11) (v := _) (some 77) rfl rfl (by kernel_rfl) (by kernel_rfl) (by kernel_rfl) (fun _ _ _ h => h) (Or.inl ⟨by rfl, fun X hX => ?_⟩) hS ?_
                  rotate_left
                  · go_simp; exact rfl
                  (try go_frame)
                  refine' takeH (i := 12) (v := _) (some 78) rfl rfl (by kernel_rfl) (by kernel_rfl) (by kernel_rfl) (fun _ _ _ h => h) (Or.inl ⟨by rfl, fun X hX => ?_⟩) hS ?_
                  rotate_left
                  · go_simp; exact rfl
                  (try go_frame)
                  refine' takeH (i := 13) (v := _) (some 79) rfl rfl (by kernel_rfl) (by kernel_rfl) (by kernel_rfl) (fun _ _ _ h => h) (Or.inl ⟨by rfl, fun X hX => ?_⟩) hS ?_
                  rotate_left
                  · go_simp; exact rfl
                  (try go_frame)
                  refine' takeH (i := 14) (v := _) (some 80) rfl rfl (by kernel_rfl) (by kernel_rfl) (by kernel_rfl) (fun _ _ _ h => h) (Or.inl ⟨by rfl, fun X hX => ?_⟩) hS ?_
                  rotate_left
                  · go_simp; exact rfl
                  (try go_frame)
                  refine' takeH (i := 15) (v := _) (some 81) rfl rfl (by kernel_rfl) (by kernel_rfl) (by kernel_rfl) (fun _ _ _ h => h) (Or.inl ⟨by rfl, fun X hX => ?_⟩) hS ?_
                  rotate_left
                  · go_simp; exact rfl
                  (try go_frame)
                  refine' takeH (i := 16) (v := _) (some 82) rfl rfl (by kernel_rfl) (by kernel_rfl) (by kernel_rfl) (fun _ _ _ h => h) (Or.inl ⟨by rfl, fun X hX => ?_⟩) hS ?_
                  rotate_left
                  · have c := hX.cellAt HD.out.2.2 (fun e => e); go_simp; exact rfl
                  (try go_frame)
                  refine' takeH (i := 17) (v := _) (some 83) rfl rfl (by kernel_rfl) (by kernel_rfl) (by kernel_rfl) (fun _ _ _ h => h) (Or.inl ⟨by rfl, fun X hX => ?_⟩) hS ?_
                  rotate_left
                  · go_simp; exact rfl
                  (try go_frame)
                  refine' takeH (i := 18) (v := _) (some 84) rfl rfl (by kernel_rfl) (by kernel_rfl) (by kernel_rfl) (fun _ _ _ h => h) (Or.inl ⟨by rfl, fun X hX => ?_⟩) hS ?_
                  rotate_left
                  · go_simp; exact rfl
                  (try go_frame)
                  refine' takeH (i := 19) (v := _) (some 85) rfl rfl (by kernel_rfl) (by kernel_rfl) (by kernel_rfl) (fun _ _ _ h => h) (Or.inl ⟨by rfl, fun X hX => ?_⟩) hS ?_
                  rotate_left
                  · go_simp; exact rfl
                  (try go_frame)
                  refine' takeH (i := 20) (v := _) (some 86) rfl rfl (by kernel_rfl) (by kernel_rfl) (by kernel_rfl) (fun _ _ _ h => h) (Or.inl ⟨by rfl, fun X hX => ?_⟩) hS ?_
                  rotate_left
                  · go_simp; exact rfl
                  (try go_frame)
                  refine' takeH (i := 21) (v := _) (some 87) rfl rfl (by kernel_rfl) (by kernel_rfl) (by kernel_rfl) (fun _ _ _ h => h) (Or.inl ⟨by rfl, fun X hX => ?_⟩) hS ?_
                  rotate_left
                  · have c := hX.cellAt HC.out.2.2 (fun e => e); go_simp; exact rfl
                  (try go_frame)
                  refine' takeH (i := 22) (v := _) (some 88) rfl rfl (by kernel_rfl) (by kernel_rfl) (by kernel_rfl) (fun _ _ _ h => h) (Or.inl ⟨by rfl, fun X hX => ?_⟩) hS ?_
                  rotate_left
                  · go_simp; exact rfl
                  (try go_frame)
                  refine' takeH (i := 23) (v := _) (some 89) rfl rfl (by kernel_rfl) (by kernel_rfl) (by kernel_rfl) (fun _ _ _ h => h) (Or.inl ⟨by rfl, fun X hX => ?_⟩) hS ?_
                  rotate_left
                  · go_simp; exact rfl
                  (try go_frame)
                  refine wpAnyH_done (by kernel_rfl) ?_ _
                  clear hS
                  have d1 : wr.drew.cell? ⟨b, off + k * 3, none⟩ = some (.int .u64 (y.t : Int)) := d0
                  go_wp2_with fail
                  go_roundw
                  case rel => exact ⟨k + 1, y.t, rfl, by go_num, by have := HK.out; omega, by omega, Lib.hid ⟨by rw [HW.out, if_pos HKE.out], HT.out.2.still (Mod.refl _ _).drew⟩⟩
                  case measure => simp; omega
                · have q2 : (y.k == x.k) = false := by simpa using hkk
                  have HKE : Hid (¬ keyT y = keyT x) := Lib.hid (fun e => hkk (congrArg Prod.snd e))
                  clear hc hkk
                  go_upto_region 18 with fail
                  refine wp_region_held_drew (S := fun X => Mod (fun _ => False) w X) (by kernel_rfl) (HM1.out.trans HT.out.2.m).drew (fun hS => ?_)
                  refine' takeH (i := 0) (v := _) (some 66) rfl rfl (by kernel_rfl) (by kernel_rfl) (by kernel_rfl) (fun _ _ _ h => h) (Or.inl ⟨by rfl, fun X hX => ?_⟩) hS ?_
                  rotate_left
                  · go_simp; exact rfl
                  (try go_frame)
                  refine' takeH (i := 1) (v := _) (some 67) rfl rfl (by kernel_rfl) (by kernel_rfl) (by kernel_rfl) (fun _ _ _ h => h) (Or.inl ⟨by rfl, fun X hX => ?_⟩) hS ?_
                  rotate_left
                  · go_simp; exact rfl
                  (try go_frame)
                  refine' takeH (i := 2) (v := _) (some 68) rfl rfl (by kernel_rfl) (by kernel_rfl) (by kernel_rfl) (fun _ _ _ h => h) (Or.inl ⟨by rfl, fun X hX => ?_⟩) hS ?_
                  rotate_left
                  · go_simp; exact rfl
                  (try go_frame)
                  refine' takeH (i := 3) (v := _) (some 69) rfl rfl (by kernel_rfl) (by kernel_rfl) (by kernel_rfl) (fun _ _ _ h => h) (Or.inl ⟨by rfl, fun X hX => ?_⟩) hS ?_
                  rotate_left
                  · go_simp; exact rfl
                  (try go_frame)
                  refine' takeH (i := 4) (v := _) (some 70) rfl rfl (by kernel_rfl) (by kernel_rfl) (by kernel_rfl) (fun _ _ _ h => h) (Or.inl ⟨by rfl, fun X hX => ?_⟩) hS ?_
                  rotate_left
                  · have c := hX.cellAt HD.out.2.1 (fun e => e); go_simp; exact rfl
                  (try go_frame)
                  refine' takeH (i := 5) (v := _) (some 71) rfl rfl (by kernel_rfl) (by kernel_rfl) (by kernel_rfl) (fun _ _ _ h => h) (Or.inl ⟨by rfl, fun X hX => ?_⟩) hS ?_
                  rotate_left
                  · go_simp; exact rfl
                  (try go_frame)
                  refine' takeH (i := 6) (v := _) (some 72) rfl rfl (by kernel_rfl) (by kernel_rfl) (by kernel_rfl) (fun _ _ _ h => h) (Or.inl ⟨by rfl, fun X hX => ?_⟩) hS ?_
                  rotate_left
                  · go_simp; exact rfl
                  (try go_frame)
                  refine' takeH (i := 7) (v := _) (some 73) rfl rfl (by kernel_rfl) (by kernel_rfl) (by kernel_rfl) (fun _ _ _ h => h) (Or.inl ⟨by rfl, fun X hX => ?_⟩) hS ?_
                  rotate_left
                  · go_simp; exact rfl
                  (try go_frame)
                  refine' takeH (i := 8) (v := _) (some 74) rfl rfl (by kernel_rfl) (by kernel_rfl) (by kernel_rfl) (fun _ _ _ h => h) (Or.inl ⟨by rfl, fun X hX => ?_⟩) hS ?_
                  rotate_left
                  · go_simp; exact rfl
                  (try go_frame)
                  refine' takeH (i := 9) (v := _) (some 75) rfl rfl (by kernel_rfl) (by kernel_rfl) (by kernel_rfl) (fun _ _ _ h => h) (Or.inl ⟨by rfl, fun X hX => ?_⟩) hS ?_
                  rotate_left
                  · have c := hX.cellAt HC.out.2.1 (fun e => e); go_simp; exact rfl
                  (try go_frame)
                  refine' takeH (i := 10) (v := _) (some 76) rfl rfl (by kernel_rfl) (by kernel_rfl) (by kernel_rfl) (fun _ _ _ h => h) (Or.inl ⟨by rfl, fun X hX => ?_⟩) hS ?_
                  rotate_left
                  · go_simp; exact rfl
                  (try go_frame)
                  refine' takeH (i := 11) (v := _) (some 77) rfl rfl (by kernel_rfl) (by kernel_rfl) (by kernel_rfl) (fun _ _ _ h => h) (Or.inl ⟨by rfl, fun X hX => ?_⟩) hS ?_
                  rotate_left
                  · go_simp; exact rfl
                  (try go_frame)
                  refine' takeH (i := 12) (v := _) (some 78) rfl rfl (by kernel_rfl) (by kernel_rfl) (by kernel_rfl) (fun _ _ _ h => h) (Or.inl ⟨by rfl, fun X hX => ?_⟩) hS ?_
                  rotate_left
                  · go_simp; exact rfl
                  (try go_frame)
                  refine' takeH (i := 13) (v := _) (some 79) rfl rfl (by kernel_rfl) (by kernel_rfl) (by kernel_rfl) (fun _ _ _ h => h) (Or.inl ⟨by rfl, fun X hX => ?_⟩) hS ?_
                  rotate_left
                  · go_simp; exact rfl
                  (try go_frame)
                  refine' takeH (i := 14) (v := _) (some 80) rfl rfl (by kernel_rfl) (by kernel_rfl) (by kernel_rfl) (fun _ _ _ h => h) (Or.inl ⟨by rfl, fun X hX => ?_⟩) hS ?_
                  rotate_left
                  · go_simp; exact rfl
                  (try go_frame)
                  refine' takeH (i := 15) (v := _) (some 81) rfl rfl (by kernel_rfl) (by kernel_rfl) (by kernel_rfl) (fun _ _ _ h => h) (Or.inl ⟨by rfl, fun X hX => ?_⟩) hS ?_
                  rotate_left
                  · go_simp; exact rfl
                  (try go_frame)
                  refine' takeH (i := 16) (v := _) (some 82) rfl rfl (by kernel_rfl) (by kernel_rfl) (by kernel_rfl) (fun _ _ _ h => h) (Or.inl ⟨by rfl, fun X hX => ?_⟩) hS ?_
                  rotate_left
                  · have c := hX.cellAt HD.out.2.2 (fun e => e); go_simp; exact rfl
                  (try go_frame)
                  refine' takeH (i := 17) (v := _) (some 83) rfl rfl (by kernel_rfl) (by kernel_rfl) (by kernel_rfl) (fun _ _ _ h => h) (Or.inl ⟨by rfl, fun X hX => ?_⟩) hS ?_
                  rotate_left
                  · go_simp; exact rfl
                  (try go_frame)
                  refine' takeH (i := 18) (v := _) (some 84) rfl rfl (by kernel_rfl) (by kernel_rfl) (by kernel_rfl) (fun _ _ _ h => h) (Or.inl ⟨by rfl, fun X hX => ?_⟩) hS ?_
                  rotate_left
                  · go_simp; exact rfl
                  (try go_frame)
                  refine' takeH (i := 19) (v := _) (some 85) rfl rfl (by kernel_rfl) (by kernel_rfl) (by kernel_rfl) (fun _ _ _ h => h) (Or.inl ⟨by rfl, fun X hX => ?_⟩) hS ?_
                  rotate_left
                  · go_simp; exact rfl
                  (try go_frame)
                  refine' takeH (i := 20) (v := _) (some 86) rfl rfl (by kernel_rfl) (by kernel_rfl) (by kernel_rfl) (fun _ _ _ h => h) (Or.inl ⟨by rfl, fun X hX => ?_⟩) hS ?_
                  rotate_left
                  · go_simp; exact rfl
                  (try go_frame)
                  refine' takeH (i := 21) (v := _) (some 87) rfl rfl (by kernel_rfl) (by kernel_rfl) (by kernel_rfl) (fun _ _ _ h => h) (Or.inl ⟨by rfl, fun X hX => ?_⟩) hS ?_
                  rotate_left
                  · have c := hX.cellAt HC.out.2.2 (fun e => e); go_simp; exact rfl
                  (try go_frame)
                  refine' takeH (i := 22) (v := _) (some 88) rfl rfl (by kernel_rfl) (by kernel_rfl) (by kernel_rfl) (fun _ _ _ h => h) (Or.inl ⟨by rfl, fun X hX => ?_⟩) hS ?_
                  rotate_left
                  · go_simp; exact rfl
                  (try go_frame)
                  refine' takeH (i := 23) (v := _) (some 89) rfl rfl (by kernel_rfl) (by kernel_rfl) (by kernel_rfl) (fun _ _ _ h => h) (Or.inl ⟨by rfl, fun X hX => ?_⟩) hS ?_
                  rotate_left
                  · go_simp; exact rfl
                  (try go_frame)
                  refine wpAnyH_done (by kernel_rfl) ?_ _
                  clear hS
                  go_wp2_with fail
                  go_roundw
                  case rel => exact ⟨k + 1, wn, rfl, by go_num, by have := HK.out; omega, by omega, Lib.hid ⟨by rw [HW.out, if_neg HKE.out]; exact HT.out.1, HT.out.2.still (Mod.refl _ _).drew⟩⟩
                  case measure => simp; omega
              · have q1 : (y.c == x.c) = false := by simpa using hc
                have HKE : Hid (¬ keyT y = keyT x) := Lib.hid (fun e => hc (congrArg Prod.fst e))
                clear hc
                go_upto_region 18 with fail
                refine wp_region_held_drew (S := fun X => Mod (fun _ => False) w X) (by kernel_rfl) (HM1.out.trans HT.out.2.m).drew (fun hS => ?_)
                refine' takeH (i := 0) (v := _) (some 66) rfl rfl (by kernel_rfl) (by kernel_rfl) (by kernel_rfl) (fun _ _ _ h => h) (Or.inl ⟨by rfl, fun X hX => ?_⟩) hS ?_
                rotate_left
                · go_simp; exact rfl
                (try go_frame)
                refine' takeH (i := 1) (v := _) (some 67) rfl rfl (by kernel_rfl) (by kernel_rfl) (by kernel_rfl) (fun _ _ _ h => h) (Or.inl ⟨by rfl, fun X hX => ?_⟩) hS ?_
                rotate_left
                · go_simp; exact rfl
                (try go_frame)
                refine' takeH (i := 2) (v := _) (some 68) rfl rfl (by kernel_rfl) (by kernel_rfl) (by kernel_rfl) (fun _ _ _ h => h) (Or.inl ⟨by rfl, fun X hX => ?_⟩) hS ?_
                rotate_left
                · go_simp; exact rfl
                (try go_frame)
                refine' takeH (i := 3) (v := _) (some 69) rfl rfl (by kernel_rfl) (by kernel_rfl) (by kernel_rfl) (fun _ _ _ h => h) (Or.inl ⟨by rfl, fun X hX => ?_⟩) hS ?_
                rotate_left
                · go_simp; exact rfl
                (try go_frame)
                refine' takeH (i := 4) (v := _) (some 70) rfl rfl (by kernel_rfl) (by kernel_rfl) (by kernel_rfl) (fun _ _ _ h => h) (Or.inl ⟨by rfl, fun X hX => ?_⟩) hS ?_
                rotate_left
                · have c := hX.cellAt HD.out.2.1 (fun e => e); go_simp; exact rfl
                (try go_frame)
                refine' takeH (i := 5) (v := _) (some 71) rfl rfl (by kernel_rfl) (by kernel_rfl) (by kernel_rfl) (fun _ _ _ h => h) (Or.inl ⟨by rfl, fun X hX => ?_⟩) hS ?_
                rotate_left
                · go_simp; exact rfl
                (try go_frame)
                refine' takeH (i := 6) (v := _) (some 72) rfl rfl (by kernel_rfl) (by kernel_rfl) (by kernel_rfl) (fun _ _ _ h => h) (Or.inl ⟨by rfl, fun X hX => ?_⟩) hS ?_
                rotate_left
                · go_simp; exact rfl
                (try go_frame)
                refine' takeH (i := 7) (v := _) (some 73) rfl rfl (by kernel_rfl) (by kernel_rfl) (by kernel_rfl) (fun _ _ _ h => h) (Or.inl ⟨by rfl, fun X hX => ?_⟩) hS ?_
                rotate_left
                · go_simp; exact rfl
                (try go_frame)
                refine' takeH (i := 8) (v := _) (some 74) rfl rfl (by kernel_rfl) (by kernel_rfl) (by kernel_rfl) (fun _ _ _ h => h) (Or.inl ⟨by rfl, fun X hX => ?_⟩) hS ?_
                rotate_left
                · go_simp; exact rfl
                (try go_frame)
                refine' takeH (i := 9) (v := _) (some 75) rfl rfl (by kernel_rfl) (by kernel_rfl) (by kernel_rfl) (fun _ _ _ h => h) (Or.inl ⟨by rfl, fun X hX => ?_⟩) hS ?_
                rotate_left
                · have c := hX.cellAt HC.out.2.1 (fun e => e); go_simp; exact rfl
                (try go_frame)
                refine' takeH (i := 10) (v := _) (some 76) rfl rfl (by kernel_rfl) (by kernel_rfl) (by kernel_rfl) (fun _ _ _ h => h) (Or.inl ⟨by rfl, fun X hX => ?_⟩) hS ?_
                rotate_left
                · go_simp; exact rfl
                (try go_frame)
                refine' takeH (i := 11) (v := _) (some 77) rfl rfl (by kernel_rfl) (by kernel_rfl) (by kernel_rfl) (fun _ _ _ h => h) (Or.inl ⟨by rfl, fun X hX => ?_⟩) hS ?_
                rotate_left
                · go_simp; exact rfl
                (try go_frame)
                refine takeH (i := 12) (v := undef) (some 78) rfl rfl (by kernel_rfl) (by kernel_rfl) (by kernel_rfl) (fun _ _ _ h => h) (Or.inr ⟨by rfl, rfl⟩) hS ?_
                (try go_frame)
                refine takeH (i := 13) (v := undef) (some 79) rfl rfl (by kernel_rfl) (by kernel_rfl) (by kernel_rfl) (fun _ _ _ h => h) (Or.inr ⟨by rfl, rfl⟩) hS ?_
                (try go_frame)
                refine takeH (i := 14) (v := undef) (some 80) rfl rfl (by kernel_rfl) (by kernel_rfl) (by kernel_rfl) (fun _ _ _ h => h) (Or.inr ⟨by rfl, rfl⟩) hS ?_
                (try go_frame)
                refine takeH (i := 15) (v := undef) (some 81) rfl rfl (by kernel_rfl) (by kernel_rfl) (by kernel_rfl) (fun _ _ _ h => h) (Or.inr ⟨by rfl, rfl⟩) hS ?_
                (try go_frame)
                refine takeH (i := 16) (v := undef) (some 82) rfl rfl (by kernel_rfl) (by kernel_rfl) (by kernel_rfl) (fun _ _ _ h => h) (Or.inr ⟨by rfl, rfl⟩) hS ?_
                (try go_frame)
                refine takeH (i := 17) (v := undef) (some 83) rfl rfl (by kernel_rfl) (by kernel_rfl) (by kernel_rfl) (fun _ _ _ h => h) (Or.inr ⟨by rfl, rfl⟩) hS ?_
                (try go_frame)
                refine takeH (i := 18) (v := undef) (some 84) rfl rfl (by kernel_rfl) (by kernel_rfl) (by kernel_rfl) (fun _ _ _ h => h) (Or.inr ⟨by rfl, rfl⟩) hS ?_
                (try go_frame)
                refine takeH (i := 19) (v := undef) (some 85) rfl rfl (by kernel_rfl) (by kernel_rfl) (by kernel_rfl) (fun _ _ _ h => h) (Or.inr ⟨by rfl, rfl⟩) hS ?_
                (try go_frame)
                refine takeH (i := 20) (v := undef) (some 86) rfl rfl (by kernel_rfl) (by kernel_rfl) (by kernel_rfl) (fun _ _ _ h => h) (Or.inr ⟨by rfl, rfl⟩) hS ?_
                (try go_frame)
                refine takeH (i := 21) (v := undef) (some 87) rfl rfl (by kernel_rfl) (by kernel_rfl) (by kernel_rfl) (fun _ _ _ h => h) (Or.inr ⟨by rfl, rfl⟩) hS ?_
                (try go_frame)
                refine takeH (i := 22) (v := undef) (some 88) rfl rfl (by kernel_rfl) (by kernel_rfl) (by kernel_rfl) (fun _ _ _ h => h) (Or.inr ⟨by rfl, rfl⟩) hS ?_
                (try go_frame)
                refine' takeH (i := 23) (v := _) (some 89) rfl rfl (by kernel_rfl) (by kernel_rfl) (by kernel_rfl) (fun _ _ _ h => h) (Or.inl ⟨by rfl, fun X hX => ?_⟩) hS ?_
                rotate_left
                · go_simp; exact rfl
                (try go_frame)
                refine wpAnyH_done (by kernel_rfl) ?_ _
                clear hS
                go_wp2_with fail
                go_roundw
                case rel => exact ⟨k + 1, wn, rfl, by go_num, by have := HK.out; omega, by omega, Lib.hid ⟨by rw [HW.out, if_neg HKE.out]; exact HT.out.1, HT.out.2.still (Mod.refl _ _).drew⟩⟩
                case measure => simp; omega
            · have k1 : ¬ (k : Int) < (i : Int) := by omega
              obtain rfl : k = i := by omega
              clear hlt hk1 hk2
              have HAT : Hid (((atN x.c x.k (setAll l []) : Nat) : Int) = (wn : Int)) := Lib.hid (by
                have e := last_at HOK.out (by have := HM.out; omega) HX.out
                rw [e, HT.out.1, ← HM.out])
              go_upto_region 20 with fail
              refine wp_region_held_drew (S := fun X => Mod (fun _ => False) w X) (by kernel_rfl) (HM1.out.trans HT.out.2.m).drew (fun hS => ?_)
              refine' takeH (i := 0) (v := _) (some 95) rfl rfl (by kernel_rfl) (by kernel_rfl) (by kernel_rfl) (fun _ _ _ h => h) (Or.inl ⟨by rfl, fun X hX => ?_⟩) hS ?_
              rotate_left
              · go_simp; exact rfl
              (try go_frame)
              refine' takeH (i := 1) (v := _) (some 96) rfl rfl (by kernel_rfl) (by kernel_rfl) (by kernel_rfl) (fun _ _ _ h => h) (Or.inl ⟨by rfl, fun X hX => ?_⟩) hS ?_
              rotate_left
              · go_simp; exact rfl
              (try go_frame)
              refine' takeH (i := 2) (v := _) (some 97) rfl rfl (by kernel_rfl) (by kernel_rfl) (by kernel_rfl) (fun _ _ _ h => h) (Or.inl ⟨by rfl, fun X hX => ?_⟩) hS ?_
              rotate_left
              · go_simp; exact rfl
              (try go_frame)
              refine' takeH (i := 3) (v := _) (some 98) rfl rfl (by kernel_rfl) (by kernel_rfl) (by kernel_rfl) (fun _ _ _ h => h) (Or.inl ⟨by rfl, fun X hX => ?_⟩) hS ?_
              rotate_left
              · go_simp; exact rfl
              (try go_frame)
              refine' takeH (i := 4) (v := _) (some 99) rfl rfl (by kernel_rfl) (by kernel_rfl) (by kernel_rfl) (fun _ _ _ h => h) (Or.inl ⟨by rfl, fun X hX => ?_⟩) hS ?_
              rotate_left
              · go_simp; exact rfl
              (try go_frame)
              refine' takeH (i := 5) (v := _) (some 100) rfl rfl (by kernel_rfl) (by kernel_rfl) (by kernel_rfl) (fun _ _ _ h => h) (Or.inl ⟨by rfl, fun X hX => ?_⟩) hS ?_
              rotate_left
              · have c := hX.cellAt HC.out.2.1 (fun e => e); go_simp; exact rfl
              (try go_frame)
              refine' takeH (i := 6) (v := _) (some 101) rfl rfl (by kernel_rfl) (by kernel_rfl) (by kernel_rfl) (fun _ _ _ h => h) (Or.inl ⟨by rfl, fun X hX => ?_⟩) hS ?_
              rotate_left
              · go_simp; exact rfl
              (try go_frame)
              refine' takeH (i := 7) (v := _) (some 102) rfl rfl (by kernel_rfl) (by kernel_rfl) (by kernel_rfl) (fun _ _ _ h => h) (Or.inl ⟨by rfl, fun X hX => ?_⟩) hS ?_
              rotate_left
              · go_simp; exact rfl
              (try go_frame)
              refine' takeH (i := 8) (v := _) (some 103) rfl rfl (by kernel_rfl) (by kernel_rfl) (by kernel_rfl) (fun _ _ _ h => h) (Or.inl ⟨by rfl, fun X hX => ?_⟩) hS ?_
              rotate_left
              · go_simp; exact rfl
              (try go_frame)
              refine' takeH (i := 9) (v := _) (some 104) rfl rfl (by kernel_rfl) (by kernel_rfl) (by kernel_rfl) (fun _ _ _ h => h) (Or.inl ⟨by rfl, fun X hX => ?_⟩) hS ?_
              rotate_left
              · go_simp; exact rfl
              (try go_frame)
              refine' takeH (i := 10) (v := _) (some 105) rfl rfl (by kernel_rfl) (by kernel_rfl) (by kernel_rfl) (fun _ _ _ h => h) (Or.inl ⟨by rfl, fun X hX => ?_⟩) hS ?_
              rotate_left
              · have c := hX.cellAt HC.out.2.2 (fun e => e); go_simp; exact rfl
              (try go_frame)
              refine' takeH (i := 12) (v := _) (some 107) rfl rfl (by kernel_rfl) (by kernel_rfl) (by kernel_rfl) (fun _ _ _ h => h) (Or.inl ⟨by rfl, fun X hX => ?_⟩) hS ?_
              rotate_left
              · go_simp; exact rfl
              (try go_frame)
              refine wpAnyH_ready (rs := [11]) (by kernel_rfl) (by simp) ?_
              refine (AllReadyH.cons (o := ⟨some 106, _, _, _, _, none⟩) rfl (fun K hK => ?_) AllReadyH.nil)
              go_simp
              refine (lq_atA (wn : Int) x.c x.k (HT.out.2.still (Mod.refl _ _).drew) HKX.out.2 HAT.out).mono ?_
              rintro e w39 ⟨rfl, rfl⟩
              refine hK.out _ _ hS (fun hS => ?_)
              clear hK K
              (try go_frame)
              refine' takeH (i := 13) (v := _) (some 108) rfl rfl (by kernel_rfl) (by kernel_rfl) (by kernel_rfl) (fun _ _ _ h => h) (Or.inl ⟨by rfl, fun X hX => ?_⟩) hS ?_
              rotate_left
              · go_simp; exact rfl
              (try go_frame)
              refine wpAnyH_done (by kernel_rfl) ?_ _
              clear hS
              go_wp2_with fail
              go_roundw
              case rel => exact ⟨j + 1, by go_num, by have := HJ1.out; omega, Lib.hid (HT.out.2.still (Mod.refl _ _).drew)⟩
              case measure => have := HJ1.out; simp; omega
        · have j1 : ¬ (j : Int) < (i : Int) := by omega
          clear hlt hj
          go_wp2_with fail
          go_ret
          exact ⟨rfl, (HM1.out.trans HS.out.m).below (Nat.le_refl _) (fun _ _ h => h.elim)⟩
end Go.Proofs.Ytodcadcapmhgfaa
