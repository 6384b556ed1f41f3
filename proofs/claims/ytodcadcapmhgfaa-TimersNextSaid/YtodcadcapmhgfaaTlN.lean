/- TimersNext's walk. (printed by genlaw12.py) -/
import Derived.Test.YtodcadcapmhgfaaTlD
namespace Go.Proofs.Ytodcadcapmhgfaa
open Go.RowKit

set_option maxHeartbeats 4000000 in
set_option maxRecDepth 10000 in
theorem next_law {w : World} {v : Value} {l : List Tm} {kk : Int} (k0 : 0 ≤ kk) (k1 : kk ≤ 255) (hv : TmV w v l) (hok : ∀ t ∈ l, okTm t) :
    Calls Try.prog 7 #[v, .int .u8 kk] w fun e w' => e = .returned (.bool true) ∧ Below w.heap.size w w' := by
  have HV := Lib.hid hv
  have HOK := Lib.hid hok
  obtain ⟨a, cap, rfl, hcap, hmax, -⟩ := hv.val
  obtain ⟨m, hm⟩ : ∃ m, m = l.length := ⟨_, rfl⟩
  rw [← hm] at HV hcap ⊢
  have HM := Lib.hid hm
  clear hv hok hm hcap hmax
  by_cases h150 : (100 : Int) < (m : Int)
  · go_enter Try.func7, Try.ntmps7
    go_wp2_with (first | (go_at_call 9; (with_reducible refine (alive_any _).mono ?_); rintro e w1 ⟨rfl, hM1⟩; have HM1 := Lib.hid hM1; clear hM1) | fail)
    go_ret
    exact ⟨rfl, HM1.out.below (Nat.le_refl _) (fun _ _ h => h.elim)⟩
  have hm150 : (m : Int) ≤ 100 := by omega
  clear h150
  go_enter Try.func7, Try.ntmps7
  go_wp2_with (first | (go_at_call 9; (with_reducible refine (alive_any _).mono ?_); rintro e w1 ⟨rfl, hM1⟩; have HM1 := Lib.hid hM1; clear hM1) | (go_at_call 18; (with_reducible refine (lq_new w1).mono ?_); rintro e w2 ⟨qb, mb, rfl, hq2, hqb⟩; have HQ2 := Lib.hid hq2; have HQB := Lib.hid hqb; clear hq2 hqb) | fail)
  go_loopw [6] (fun s1 wr => ∃ (i : Nat), s1 = .int .i64 (i : Int) ∧ i ≤ m ∧ Hid (LQ w1 wr qb mb (1000 * i) (setAll (l.take i) []) noF)) (fun s1 _ => m - (match s1 with | .int _ z => z.toNat | _ => 0))
  case atStart => exact ⟨0, rfl, Nat.zero_le _, HQ2.out⟩
  case round =>
    obtain ⟨i, rfl, hi, HS⟩ := hrel
    have i0 : (0 : Int) ≤ (i : Int) := by omega
    have HI := Lib.hid hi
    by_cases hlt : i < m
    · have i1 : (i : Int) < (m : Int) := by omega
      obtain ⟨x, hx⟩ : ∃ x, l[i]? = some x := ⟨_, List.getElem?_eq_getElem (by have := HM.out; omega)⟩
      obtain ⟨b, off, cap2, hv1, hr⟩ := ((HV.out.kept HM1.out).kept HS.out.m).at hx
      simp only [Value.slice.injEq] at hv1
      obtain ⟨rfl, -, -⟩ := hv1
      have HR := Lib.hid hr
      have HX := Lib.hid hx
      have HKX : Hid (okTm x) := Lib.hid (HOK.out x (List.mem_of_getElem? hx))
      have hset : setAll (l.take (i + 1)) [] = (setT x (setAll (l.take i) [])).2 := by rw [List.take_add_one, hx]; exact setAll_snoc _ _ _
      have HSET := Lib.hid hset
      have HN : Hid (1000 * i ≤ 1000000000) := Lib.hid (by omega)
      clear hr hx hset hi hlt
      go_wp2_with (first
        | ((with_reducible refine wpList_load_tm ?_ (.tmp 24) ?_ b (off + i * 3) ?_ x HR.out ?_); (· exact rfl); (· exact rfl); (· exact rfl))
        | (go_at_call 11; (with_reducible refine (lq_set x HS.out HKX.out HN.out (setT x (setAll (l.take i) [])).1 (setT x (setAll (l.take i) [])).2 rfl).mono ?_); rintro e w5 ⟨rfl, hq5, -⟩; have HQ5 := Lib.hid hq5; clear hq5)
        | fail)
      go_roundw
      case rel => exact ⟨i + 1, by go_num, by have := HI.out; omega, by rw [HSET.out]; exact Lib.hid (HQ5.out.more (by omega))⟩
      case measure => simp; omega
    · have i1 : ¬ (i : Int) < (m : Int) := by omega
      obtain rfl : i = m := by omega
      clear hlt hi
      have hall : Hid (∃ L, L = setAll l [] ∧ LQ w1 wr qb mb (1000 * i) L noF ∧ QL L ∧ L.length ≤ i) := by
        have e : l.take i = l := List.take_of_length_le (by have := HM.out; omega)
        have h1 := HS.out
        rw [e] at h1
        exact Lib.hid ⟨_, rfl, h1, h1.l, by have := (setAll_ok l (L := []) QL.nil (fun t ht => (HOK.out t ht).1)).2; rw [HM.out]; simpa using this⟩
      clear HS
      obtain ⟨L, hL, hq, hql, hlen⟩ := hall.out
      have HL := Lib.hid hL
      have HQ3 := Lib.hid hq
      have HQL := Lib.hid hql
      obtain ⟨M, hM⟩ : ∃ M, M = L.length := ⟨_, rfl⟩
      have HML := Lib.hid hM
      have M0 : (0 : Int) ≤ (M : Int) := by omega
      have M1 : (M : Int) ≤ (i : Int) := by omega
      clear hL hq hql hlen hM hall
      have r0 : 0 ≤ kk % 4 := by omega
      have r1 : kk % 4 ≤ 3 := by omega
      go_wp2_with fail
      go_loopw [7] (fun s7 wr => ∃ (j : Nat) (L' : List Tm), s7 = .int .i64 (j : Int) ∧ j ≤ i + 3 ∧ Hid (LQ w1 wr qb mb (1000 * i + 1000 * j) L' noF)) (fun s7 _ => i + 3 - (match s7 with | .int _ z => z.toNat | _ => 0))
      case atStart => exact ⟨0, L, rfl, by omega, HQ3⟩
      case round =>
        obtain ⟨j, L', rfl, hj, HS⟩ := hrel
        have j0 : (0 : Int) ≤ (j : Int) := by omega
        have HJ := Lib.hid hj
        by_cases hlt : j < i
        · have j1 : (j : Int) < (i : Int) := by omega
          obtain ⟨x, hx⟩ : ∃ x, l[j]? = some x := ⟨_, List.getElem?_eq_getElem (by have := HM.out; omega)⟩
          obtain ⟨b, off, cap2, hv1, hr⟩ := HV.out.at hx
          simp only [Value.slice.injEq] at hv1
          obtain ⟨rfl, -, -⟩ := hv1
          have HC := Lib.hid (TmC.of hr)
          have HKX : Hid (okTm x) := Lib.hid (HOK.out x (List.mem_of_getElem? hx))
          have HN : Hid (1000 * i + 1000 * j ≤ 1000000000) := Lib.hid (by omega)
          have HAT : Hid (((atN x.c x.k (delT x.c x.k L') : Nat) : Int) = ((neverN : Nat) : Int)) := Lib.hid (by rw [at_del])
          have HNN : Hid (neverB neverN = true) := Lib.hid rfl
          have HJI := Lib.hid hlt
          clear hr hx hj hlt
          go_upto_region 13 with fail
          refine wp_region_held_drew (S := fun X => Mod (fun _ => False) w X) (by kernel_rfl) (HM1.out.trans HS.out.m).drew (fun hS => ?_)
          refine' takeH (i := 0) (v := _) (some 37) rfl rfl (by kernel_rfl) (by kernel_rfl) (by kernel_rfl) (fun _ _ _ h => h) (Or.inl ⟨by rfl, fun X hX => ?_⟩) hS ?_
          rotate_left
          · go_simp; exact rfl
          (try go_frame)
          refine' takeH (i := 1) (v := _) (some 38) rfl rfl (by kernel_rfl) (by kernel_rfl) (by kernel_rfl) (fun _ _ _ h => h) (Or.inl ⟨by rfl, fun X hX => ?_⟩) hS ?_
          rotate_left
          · go_simp; exact rfl
          (try go_frame)
          refine' takeH (i := 2) (v := _) (some 39) rfl rfl (by kernel_rfl) (by kernel_rfl) (by kernel_rfl) (fun _ _ _ h => h) (Or.inl ⟨by rfl, fun X hX => ?_⟩) hS ?_
          rotate_left
          · go_simp; exact rfl
          (try go_frame)
          refine' takeH (i := 3) (v := _) (some 40) rfl rfl (by kernel_rfl) (by kernel_rfl) (by kernel_rfl) (fun _ _ _ h => h) (Or.inl ⟨by rfl, fun X hX => ?_⟩) hS ?_
          rotate_left
          · go_simp; exact rfl
          (try go_frame)
          refine' takeH (i := 4) (v := _) (some 41) rfl rfl (by kernel_rfl) (by kernel_rfl) (by kernel_rfl) (fun _ _ _ h => h) (Or.inl ⟨by rfl, fun X hX => ?_⟩) hS ?_
          rotate_left
          · go_simp; exact rfl
          (try go_frame)
          refine' takeH (i := 5) (v := _) (some 42) rfl rfl (by kernel_rfl) (by kernel_rfl) (by kernel_rfl) (fun _ _ _ h => h) (Or.inl ⟨by rfl, fun X hX => ?_⟩) hS ?_
          rotate_left
          · have c := hX.cellAt HC.out.2.1 (fun e => e); go_simp; exact rfl
          (try go_frame)
          refine' takeH (i := 6) (v := _) (some 43) rfl rfl (by kernel_rfl) (by kernel_rfl) (by kernel_rfl) (fun _ _ _ h => h) (Or.inl ⟨by rfl, fun X hX => ?_⟩) hS ?_
          rotate_left
          · go_simp; exact rfl
          (try go_frame)
          refine' takeH (i := 7) (v := _) (some 44) rfl rfl (by kernel_rfl) (by kernel_rfl) (by kernel_rfl) (fun _ _ _ h => h) (Or.inl ⟨by rfl, fun X hX => ?_⟩) hS ?_
          rotate_left
          · go_simp; exact rfl
          (try go_frame)
          refine' takeH (i := 8) (v := _) (some 45) rfl rfl (by kernel_rfl) (by kernel_rfl) (by kernel_rfl) (fun _ _ _ h => h) (Or.inl ⟨by rfl, fun X hX => ?_⟩) hS ?_
          rotate_left
          · go_simp; exact rfl
          (try go_frame)
          refine' takeH (i := 9) (v := _) (some 46) rfl rfl (by kernel_rfl) (by kernel_rfl) (by kernel_rfl) (fun _ _ _ h => h) (Or.inl ⟨by rfl, fun X hX => ?_⟩) hS ?_
          rotate_left
          · go_simp; exact rfl
          (try go_frame)
          refine' takeH (i := 10) (v := _) (some 47) rfl rfl (by kernel_rfl) (by kernel_rfl) (by kernel_rfl) (fun _ _ _ h => h) (Or.inl ⟨by rfl, fun X hX => ?_⟩) hS ?_
          rotate_left
          · have c := hX.cellAt HC.out.2.2 (fun e => e); go_simp; exact rfl
          (try go_frame)
          refine wpAnyH_ready (rs := [11]) (by kernel_rfl) (by simp) ?_
          refine (AllReadyH.cons (o := ⟨some 48, _, _, _, _, none⟩) rfl (fun K hK => ?_) AllReadyH.nil)
          go_simp
          refine (lq_cancel x.c x.k (HS.out.still (Mod.refl _ _).drew) HKX.out.2 HN.out).mono ?_
          rintro e w25 ⟨rfl, hq25, -⟩
          have HQ25 := Lib.hid hq25
          refine hK.out _ _ (HM1.out.trans hq25.m) (fun hS => ?_)
          clear hK K hq25
          (try go_frame)
          refine wpAnyH_done (by kernel_rfl) ?_ _
          clear hS
          go_upto_region 14 with fail
          refine wp_region_held_drew (S := fun X => Mod (fun _ => False) w X) (by kernel_rfl) (HM1.out.trans HQ25.out.m).drew (fun hS => ?_)
          refine' takeH (i := 0) (v := _) (some 49) rfl rfl (by kernel_rfl) (by kernel_rfl) (by kernel_rfl) (fun _ _ _ h => h) (Or.inl ⟨by rfl, fun X hX => ?_⟩) hS ?_
          rotate_left
          · go_simp; exact rfl
          (try go_frame)
          refine' takeH (i := 1) (v := _) (some 50) rfl rfl (by kernel_rfl) (by kernel_rfl) (by kernel_rfl) (fun _ _ _ h => h) (Or.inl ⟨by rfl, fun X hX => ?_⟩) hS ?_
          rotate_left
          · go_simp; exact rfl
          (try go_frame)
          refine' takeH (i := 2) (v := _) (some 51) rfl rfl (by kernel_rfl) (by kernel_rfl) (by kernel_rfl) (fun _ _ _ h => h) (Or.inl ⟨by rfl, fun X hX => ?_⟩) hS ?_
          rotate_left
          · go_simp; exact rfl
          (try go_frame)
          refine' takeH (i := 3) (v := _) (some 52) rfl rfl (by kernel_rfl) (by kernel_rfl) (by kernel_rfl) (fun _ _ _ h => h) (Or.inl ⟨by rfl, fun X hX => ?_⟩) hS ?_
          rotate_left
          · go_simp; exact rfl
          (try go_frame)
          refine' takeH (i := 4) (v := _) (some 53) rfl rfl (by kernel_rfl) (by kernel_rfl) (by kernel_rfl) (fun _ _ _ h => h) (Or.inl ⟨by rfl, fun X hX => ?_⟩) hS ?_
          rotate_left
          · go_simp; exact rfl
          (try go_frame)
          refine' takeH (i := 5) (v := _) (some 54) rfl rfl (by kernel_rfl) (by kernel_rfl) (by kernel_rfl) (fun _ _ _ h => h) (Or.inl ⟨by rfl, fun X hX => ?_⟩) hS ?_
          rotate_left
          · have c := hX.cellAt HC.out.2.1 (fun e => e); go_simp; exact rfl
          (try go_frame)
          refine' takeH (i := 6) (v := _) (some 55) rfl rfl (by kernel_rfl) (by kernel_rfl) (by kernel_rfl) (fun _ _ _ h => h) (Or.inl ⟨by rfl, fun X hX => ?_⟩) hS ?_
          rotate_left
          · go_simp; exact rfl
          (try go_frame)
          refine' takeH (i := 7) (v := _) (some 56) rfl rfl (by kernel_rfl) (by kernel_rfl) (by kernel_rfl) (fun _ _ _ h => h) (Or.inl ⟨by rfl, fun X hX => ?_⟩) hS ?_
          rotate_left
          · go_simp; exact rfl
          (try go_frame)
          refine' takeH (i := 8) (v := _) (some 57) rfl rfl (by kernel_rfl) (by kernel_rfl) (by kernel_rfl) (fun _ _ _ h => h) (Or.inl ⟨by rfl, fun X hX => ?_⟩) hS ?_
          rotate_left
          · go_simp; exact rfl
          (try go_frame)
          refine' takeH (i := 9) (v := _) (some 58) rfl rfl (by kernel_rfl) (by kernel_rfl) (by kernel_rfl) (fun _ _ _ h => h) (Or.inl ⟨by rfl, fun X hX => ?_⟩) hS ?_
          rotate_left
          · go_simp; exact rfl
          (try go_frame)
          refine' takeH (i := 10) (v := _) (some 59) rfl rfl (by kernel_rfl) (by kernel_rfl) (by kernel_rfl) (fun _ _ _ h => h) (Or.inl ⟨by rfl, fun X hX => ?_⟩) hS ?_
          rotate_left
          · have c := hX.cellAt HC.out.2.2 (fun e => e); go_simp; exact rfl
          (try go_frame)
          refine wpAnyH_ready (rs := [11]) (by kernel_rfl) (by simp) ?_
          refine (AllReadyH.cons (o := ⟨some 60, _, _, _, _, none⟩) rfl (fun K hK => ?_) AllReadyH.nil)
          go_simp
          refine (lq_atA ((neverN : Nat) : Int) x.c x.k (HQ25.out.still (Mod.refl _ _).drew) HKX.out.2 HAT.out).mono ?_
          rintro e w39 ⟨rfl, rfl⟩
          refine hK.out _ _ hS (fun hS => ?_)
          clear hK K
          (try go_frame)
          refine takeH (i := 12) (v := .bool (!neverB neverN)) (some 61) rfl rfl (by kernel_rfl) (by kernel_rfl) (by kernel_rfl) (fun _ _ _ h => h) (Or.inl ⟨by rfl, fun X hX => ?_⟩) hS ?_
          · exact exec_nnever (x := .tmp 60) rfl rfl
          (try go_frame)
          refine wpAnyH_done (by kernel_rfl) ?_ _
          have HQ26 := Lib.hid (HQ25.out.still (Mod.refl (fun _ => False) w25).drew)
          clear hS
          rw [HNN.out]
          go_upto_region 17 with (first
            | (go_at_call 15; (with_reducible refine (lq_list HQ26.out).mono ?_); rintro e w30 ⟨a3, c3, rfl, ht3, hM3, -⟩; have HT3 := Lib.hid ht3; have HQ30 := Lib.hid (HQ26.out.still hM3); clear ht3 hM3)
            | fail)
          obtain ⟨D, hD⟩ : ∃ D, D = delT x.c x.k L' := ⟨_, rfl⟩
          rw [← hD] at HT3 HQ30 ⊢
          clear hD
          obtain ⟨n, hn⟩ : ∃ n, n = D.length := ⟨_, rfl⟩
          have HNL := Lib.hid hn
          rw [← hn] at HT3 ⊢
          have n0 : (0 : Int) ≤ (n : Int) := by omega
          clear hn
          cases D with
          | nil =>
            have hn0 : n = 0 := HNL.out
            subst hn0
            refine wp_region_held_drew (S := fun X => Mod (fun _ => False) w30 X) (by kernel_rfl) (Mod.refl _ _).drew (fun hS => ?_)
            refine' takeH (i := 0) (v := _) (some 64) rfl rfl (by kernel_rfl) (by kernel_rfl) (by kernel_rfl) (fun _ _ _ h => h) (Or.inl ⟨by rfl, fun X hX => ?_⟩) hS ?_
            rotate_left
            · go_simp; exact rfl
            (try go_frame)
            refine' takeH (i := 1) (v := _) (some 65) rfl rfl (by kernel_rfl) (by kernel_rfl) (by kernel_rfl) (fun _ _ _ h => h) (Or.inl ⟨by rfl, fun X hX => ?_⟩) hS ?_
            rotate_left
            · go_simp; exact rfl
            (try go_frame)
            refine' takeH (i := 2) (v := _) (some 66) rfl rfl (by kernel_rfl) (by kernel_rfl) (by kernel_rfl) (fun _ _ _ h => h) (Or.inl ⟨by rfl, fun X hX => ?_⟩) hS ?_
            rotate_left
            · go_simp; exact rfl
            (try go_frame)
            refine wpAnyH_ready (rs := [3]) (by kernel_rfl) (by simp) ?_
            refine (AllReadyH.cons (o := ⟨some 67, _, _, _, _, none⟩) rfl (fun K hK => ?_) AllReadyH.nil)
            go_simp
            refine (lq_lenA 0 (HQ30.out.still (Mod.refl _ _).drew) rfl).mono ?_
            rintro e w39 ⟨rfl, rfl⟩
            refine hK.out _ _ hS (fun hS => ?_)
            clear hK K
            (try go_frame)
            refine' takeH (i := 4) (v := _) (some 68) rfl rfl (by kernel_rfl) (by kernel_rfl) (by kernel_rfl) (fun _ _ _ h => h) (Or.inl ⟨by rfl, fun X hX => ?_⟩) hS ?_
            rotate_left
            · go_simp; exact rfl
            (try go_frame)
            refine' takeH (i := 5) (v := _) (some 69) rfl rfl (by kernel_rfl) (by kernel_rfl) (by kernel_rfl) (fun _ _ _ h => h) (Or.inl ⟨by rfl, fun X hX => ?_⟩) hS ?_
            rotate_left
            · go_simp; exact rfl
            (try go_frame)
            refine' takeH (i := 6) (v := _) (some 70) rfl rfl (by kernel_rfl) (by kernel_rfl) (by kernel_rfl) (fun _ _ _ h => h) (Or.inl ⟨by rfl, fun X hX => ?_⟩) hS ?_
            rotate_left
            · go_simp; exact rfl
            (try go_frame)
            refine' takeH (i := 7) (v := _) (some 71) rfl rfl (by kernel_rfl) (by kernel_rfl) (by kernel_rfl) (fun _ _ _ h => h) (Or.inl ⟨by rfl, fun X hX => ?_⟩) hS ?_
            rotate_left
            · go_simp; exact rfl
            (try go_frame)
            refine' takeH (i := 8) (v := _) (some 72) rfl rfl (by kernel_rfl) (by kernel_rfl) (by kernel_rfl) (fun _ _ _ h => h) (Or.inl ⟨by rfl, fun X hX => ?_⟩) hS ?_
            rotate_left
            · go_simp; exact rfl
            (try go_frame)
            refine' takeH (i := 9) (v := _) (some 73) rfl rfl (by kernel_rfl) (by kernel_rfl) (by kernel_rfl) (fun _ _ _ h => h) (Or.inl ⟨by rfl, fun X hX => ?_⟩) hS ?_
            rotate_left
            · go_simp; exact rfl
            (try go_frame)
            refine' takeH (i := 10) (v := _) (some 74) rfl rfl (by kernel_rfl) (by kernel_rfl) (by kernel_rfl) (fun _ _ _ h => h) (Or.inl ⟨by rfl, fun X hX => ?_⟩) hS ?_
            rotate_left
            · go_simp; exact rfl
            (try go_frame)
            refine wpAnyH_ready (rs := [11]) (by kernel_rfl) (by simp) ?_
            refine (AllReadyH.cons (o := ⟨some 75, _, _, _, _, some (9, true)⟩) rfl (fun K hK => ?_) AllReadyH.nil)
            go_simp
            refine (lq_nextA ((neverN : Nat) : Int) (HQ30.out.still (Mod.refl _ _).drew) rfl).mono ?_
            rintro e w39 ⟨rfl, rfl⟩
            refine hK.out _ _ hS (fun hS => ?_)
            clear hK K
            (try go_frame)
            refine takeH (i := 12) (v := .bool false) (some 76) rfl rfl (by kernel_rfl) (by kernel_rfl) (by kernel_rfl) (fun _ _ _ h => h) (Or.inl ⟨by rfl, fun X hX => ?_⟩) hS ?_
            · rw [show false = !neverB neverN by rw [HNN.out]; rfl]; exact exec_nnever (x := .tmp 75) rfl rfl
            (try go_frame)
            refine' takeH (i := 13) (v := _) (some 77) rfl rfl (by kernel_rfl) (by kernel_rfl) (by kernel_rfl) (fun _ _ _ h => h) (Or.inl ⟨by rfl, fun X hX => ?_⟩) hS ?_
            rotate_left
            · go_simp; exact rfl
            (try go_frame)
            refine' takeH (i := 14) (v := _) (some 78) rfl rfl (by kernel_rfl) (by kernel_rfl) (by kernel_rfl) (fun _ _ _ h => h) (Or.inl ⟨by rfl, fun X hX => ?_⟩) hS ?_
            rotate_left
            · go_simp; exact rfl
            (try go_frame)
            refine' takeH (i := 15) (v := _) (some 79) rfl rfl (by kernel_rfl) (by kernel_rfl) (by kernel_rfl) (fun _ _ _ h => h) (Or.inl ⟨by rfl, fun X hX => ?_⟩) hS ?_
            rotate_left
            · go_simp; exact rfl
            (try go_frame)
            refine' takeH (i := 16) (v := _) (some 80) rfl rfl (by kernel_rfl) (by kernel_rfl) (by kernel_rfl) (fun _ _ _ h => h) (Or.inl ⟨by rfl, fun X hX => ?_⟩) hS ?_
            rotate_left
            · go_simp; exact rfl
            (try go_frame)
            refine' takeH (i := 17) (v := _) (some 81) rfl rfl (by kernel_rfl) (by kernel_rfl) (by kernel_rfl) (fun _ _ _ h => h) (Or.inl ⟨by rfl, fun X hX => ?_⟩) hS ?_
            rotate_left
            · go_simp; exact rfl
            (try go_frame)
            refine' takeH (i := 18) (v := _) (some 82) rfl rfl (by kernel_rfl) (by kernel_rfl) (by kernel_rfl) (fun _ _ _ h => h) (Or.inl ⟨by rfl, fun X hX => ?_⟩) hS ?_
            rotate_left
            · go_simp; exact rfl
            (try go_frame)
            refine' takeH (i := 19) (v := _) (some 83) rfl rfl (by kernel_rfl) (by kernel_rfl) (by kernel_rfl) (fun _ _ _ h => h) (Or.inl ⟨by rfl, fun X hX => ?_⟩) hS ?_
            rotate_left
            · go_simp; exact rfl
            (try go_frame)
            refine takeH (i := 20) (v := undef) (some 84) rfl rfl (by kernel_rfl) (by kernel_rfl) (by kernel_rfl) (fun _ _ _ h => h) (Or.inr ⟨by rfl, rfl⟩) hS ?_
            (try go_frame)
            refine takeH (i := 22) (v := undef) (some 86) rfl rfl (by kernel_rfl) (by kernel_rfl) (by kernel_rfl) (fun _ _ _ h => h) (Or.inr ⟨by rfl, rfl⟩) hS ?_
            (try go_frame)
            refine takeH (i := 23) (v := undef) (some 87) rfl rfl (by kernel_rfl) (by kernel_rfl) (by kernel_rfl) (fun _ _ _ h => h) (Or.inr ⟨by rfl, rfl⟩) hS ?_
            (try go_frame)
            refine takeH (i := 24) (v := undef) (some 88) rfl rfl (by kernel_rfl) (by kernel_rfl) (by kernel_rfl) (fun _ _ _ h => h) (Or.inr ⟨by rfl, rfl⟩) hS ?_
            (try go_frame)
            refine takeH (i := 25) (v := undef) (some 89) rfl rfl (by kernel_rfl) (by kernel_rfl) (by kernel_rfl) (fun _ _ _ h => h) (Or.inr ⟨by rfl, rfl⟩) hS ?_
            (try go_frame)
            refine takeH (i := 21) (v := undef) (some 85) rfl rfl (by kernel_rfl) (by kernel_rfl) (by kernel_rfl) (fun _ _ _ h => h) (Or.inr ⟨by rfl, rfl⟩) hS ?_
            (try go_frame)
            refine takeH (i := 26) (v := undef) (some 90) rfl rfl (by kernel_rfl) (by kernel_rfl) (by kernel_rfl) (fun _ _ _ h => h) (Or.inr ⟨by rfl, rfl⟩) hS ?_
            (try go_frame)
            refine' takeH (i := 27) (v := _) (some 91) rfl rfl (by kernel_rfl) (by kernel_rfl) (by kernel_rfl) (fun _ _ _ h => h) (Or.inl ⟨by rfl, fun X hX => ?_⟩) hS ?_
            rotate_left
            · go_simp; exact rfl
            (try go_frame)
            refine' takeH (i := 28) (v := _) (some 92) rfl rfl (by kernel_rfl) (by kernel_rfl) (by kernel_rfl) (fun _ _ _ h => h) (Or.inl ⟨by rfl, fun X hX => ?_⟩) hS ?_
            rotate_left
            · go_simp; exact rfl
            (try go_frame)
            refine wpAnyH_done (by kernel_rfl) ?_ _
            clear hS
            go_wp2_with fail
            go_roundw
            case rel =>
              obtain ⟨q, hq⟩ := Int.eq_ofNat_of_zero_le r0
              refine ⟨j + 1 + q, _, by first | rfl | go_num | (rw [hq]; go_num), by have := HJI.out; omega, Lib.hid ((HQ30.out.still (Mod.refl _ _).drew).more (by omega))⟩
            case measure => have := HJI.out; simp; omega
          | cons y R =>
            have hnp : (0 : Int) < (n : Int) := by have := HNL.out; rw [List.length_cons] at this; omega
            have hnp2 : 0 < n := by omega
            have n2 : ((n : Int) == 0) = false := by simp; omega
            obtain ⟨g, o, c4, hv4, hr4⟩ := HT3.out.at (i := 0) (t := y) rfl
            simp only [Value.slice.injEq] at hv4
            obtain ⟨rfl, -, -⟩ := hv4
            have e0 : w30.cell? ⟨g, o, none⟩ = some (.int .u64 (y.t : Int)) := by
              have := hr4 0 _ rfl
              simpa using this
            have HE0 := Lib.hid e0
            clear hr4 e0
            refine wp_region_held_drew (S := fun X => Mod (fun _ => False) w30 X) (by kernel_rfl) (Mod.refl _ _).drew (fun hS => ?_)
            refine' takeH (i := 0) (v := _) (some 64) rfl rfl (by kernel_rfl) (by kernel_rfl) (by kernel_rfl) (fun _ _ _ h => h) (Or.inl ⟨by rfl, fun X hX => ?_⟩) hS ?_
            rotate_left
            · go_simp; exact rfl
            (try go_frame)
            refine' takeH (i := 1) (v := _) (some 65) rfl rfl (by kernel_rfl) (by kernel_rfl) (by kernel_rfl) (fun _ _ _ h => h) (Or.inl ⟨by rfl, fun X hX => ?_⟩) hS ?_
            rotate_left
            · go_simp; exact rfl
            (try go_frame)
            refine' takeH (i := 2) (v := _) (some 66) rfl rfl (by kernel_rfl) (by kernel_rfl) (by kernel_rfl) (fun _ _ _ h => h) (Or.inl ⟨by rfl, fun X hX => ?_⟩) hS ?_
            rotate_left
            · go_simp; exact rfl
            (try go_frame)
            refine wpAnyH_ready (rs := [3]) (by kernel_rfl) (by simp) ?_
            refine (AllReadyH.cons (o := ⟨some 67, _, _, _, _, none⟩) rfl (fun K hK => ?_) AllReadyH.nil)
            go_simp
            refine (lq_lenA (n : Int) (HQ30.out.still (Mod.refl _ _).drew) (by rw [HNL.out])).mono ?_
            rintro e w39 ⟨rfl, rfl⟩
            refine hK.out _ _ hS (fun hS => ?_)
            clear hK K
            (try go_frame)
            refine' takeH (i := 4) (v := _) (some 68) rfl rfl (by kernel_rfl) (by kernel_rfl) (by kernel_rfl) (fun _ _ _ h => h) (Or.inl ⟨by rfl, fun X hX => ?_⟩) hS ?_
            rotate_left
            · go_simp; exact rfl
            (try go_frame)
            refine' takeH (i := 5) (v := _) (some 69) rfl rfl (by kernel_rfl) (by kernel_rfl) (by kernel_rfl) (fun _ _ _ h => h) (Or.inl ⟨by rfl, fun X hX => ?_⟩) hS ?_
            rotate_left
            · go_simp; exact rfl
            (try go_frame)
            refine' takeH (i := 6) (v := _) (some 70) rfl rfl (by kernel_rfl) (by kernel_rfl) (by kernel_rfl) (fun _ _ _ h => h) (Or.inl ⟨by rfl, fun X hX => ?_⟩) hS ?_
            rotate_left
            · go_simp; exact rfl
            (try go_frame)
            refine' takeH (i := 7) (v := _) (some 71) rfl rfl (by kernel_rfl) (by kernel_rfl) (by kernel_rfl) (fun _ _ _ h => h) (Or.inl ⟨by rfl, fun X hX => ?_⟩) hS ?_
            rotate_left
            · go_simp; exact rfl
            (try go_frame)
            refine' takeH (i := 8) (v := _) (some 72) rfl rfl (by kernel_rfl) (by kernel_rfl) (by kernel_rfl) (fun _ _ _ h => h) (Or.inl ⟨by rfl, fun X hX => ?_⟩) hS ?_
            rotate_left
            · go_simp; exact rfl
            (try go_frame)
            refine' takeH (i := 9) (v := _) (some 73) rfl rfl (by kernel_rfl) (by kernel_rfl) (by kernel_rfl) (fun _ _ _ h => h) (Or.inl ⟨by rfl, fun X hX => ?_⟩) hS ?_
            rotate_left
            · go_simp; exact rfl
            (try go_frame)
            refine takeH (i := 10) (v := undef) (some 74) rfl rfl (by kernel_rfl) (by kernel_rfl) (by kernel_rfl) (fun _ _ _ h => h) (Or.inr ⟨by rfl, rfl⟩) hS ?_
            (try go_frame)
            refine takeH (i := 11) (v := undef) (some 75) rfl rfl (by kernel_rfl) (by kernel_rfl) (by kernel_rfl) (fun _ _ _ h => h) (Or.inr ⟨by rfl, rfl⟩) hS ?_
            (try go_frame)
            refine takeH (i := 12) (v := undef) (some 76) rfl rfl (by kernel_rfl) (by kernel_rfl) (by kernel_rfl) (fun _ _ _ h => h) (Or.inr ⟨by rfl, rfl⟩) hS ?_
            (try go_frame)
            refine' takeH (i := 13) (v := _) (some 77) rfl rfl (by kernel_rfl) (by kernel_rfl) (by kernel_rfl) (fun _ _ _ h => h) (Or.inl ⟨by rfl, fun X hX => ?_⟩) hS ?_
            rotate_left
            · go_simp; exact rfl
            (try go_frame)
            refine' takeH (i := 14) (v := _) (some 78) rfl rfl (by kernel_rfl) (by kernel_rfl) (by kernel_rfl) (fun _ _ _ h => h) (Or.inl ⟨by rfl, fun X hX => ?_⟩) hS ?_
            rotate_left
            · go_simp; exact rfl
            (try go_frame)
            refine' takeH (i := 15) (v := _) (some 79) rfl rfl (by kernel_rfl) (by kernel_rfl) (by kernel_rfl) (fun _ _ _ h => h) (Or.inl ⟨by rfl, fun X hX => ?_⟩) hS ?_
            rotate_left
            · go_simp; exact rfl
            (try go_frame)
            refine' takeH (i := 16) (v := _) (some 80) rfl rfl (by kernel_rfl) (by kernel_rfl) (by kernel_rfl) (fun _ _ _ h => h) (Or.inl ⟨by rfl, fun X hX => ?_⟩) hS ?_
            rotate_left
            · go_simp; exact rfl
            (try go_frame)
            refine' takeH (i := 17) (v := _) (some 81) rfl rfl (by kernel_rfl) (by kernel_rfl) (by kernel_rfl) (fun _ _ _ h => h) (Or.inl ⟨by rfl, fun X hX => ?_⟩) hS ?_
            rotate_left
            · go_simp; exact rfl
            (try go_frame)
            refine' takeH (i := 18) (v := _) (some 82) rfl rfl (by kernel_rfl) (by kernel_rfl) (by kernel_rfl) (fun _ _ _ h => h) (Or.inl ⟨by rfl, fun X hX => ?_⟩) hS ?_
            rotate_left
            · go_simp; exact rfl
            (try go_frame)
            refine' takeH (i := 19) (v := _) (some 83) rfl rfl (by kernel_rfl) (by kernel_rfl) (by kernel_rfl) (fun _ _ _ h => h) (Or.inl ⟨by rfl, fun X hX => ?_⟩) hS ?_
            rotate_left
            · go_simp; exact rfl
            (try go_frame)
            refine' takeH (i := 20) (v := _) (some 84) rfl rfl (by kernel_rfl) (by kernel_rfl) (by kernel_rfl) (fun _ _ _ h => h) (Or.inl ⟨by rfl, fun X hX => ?_⟩) hS ?_
            rotate_left
            · go_simp; exact rfl
            (try go_frame)
            refine' takeH (i := 22) (v := _) (some 86) rfl rfl (by kernel_rfl) (by kernel_rfl) (by kernel_rfl) (fun _ _ _ h => h) (Or.inl ⟨by rfl, fun X hX => ?_⟩) hS ?_
            rotate_left
            · go_simp; exact rfl
            (try go_frame)
            refine' takeH (i := 23) (v := _) (some 87) rfl rfl (by kernel_rfl) (by kernel_rfl) (by kernel_rfl) (fun _ _ _ h => h) (Or.inl ⟨by rfl, fun X hX => ?_⟩) hS ?_
            rotate_left
            · go_simp; exact rfl
            (try go_frame)
            refine' takeH (i := 24) (v := _) (some 88) rfl rfl (by kernel_rfl) (by kernel_rfl) (by kernel_rfl) (fun _ _ _ h => h) (Or.inl ⟨by rfl, fun X hX => ?_⟩) hS ?_
            rotate_left
            · go_simp; exact rfl
            (try go_frame)
            refine' takeH (i := 25) (v := _) (some 89) rfl rfl (by kernel_rfl) (by kernel_rfl) (by kernel_rfl) (fun _ _ _ h => h) (Or.inl ⟨by rfl, fun X hX => ?_⟩) hS ?_
            rotate_left
            · have c := hX.cellAt HE0.out (fun e => e); go_simp; exact rfl
            (try go_frame)
            refine wpAnyH_ready (rs := [21]) (by kernel_rfl) (by simp) ?_
            refine (AllReadyH.cons (o := ⟨some 85, _, _, _, _, some (19, true)⟩) rfl (fun K hK => ?_) AllReadyH.nil)
            go_simp
            refine (lq_nextA (y.t : Int) (HQ30.out.still (Mod.refl _ _).drew) rfl).mono ?_
            rintro e w39 ⟨rfl, rfl⟩
            refine hK.out _ _ hS (fun hS => ?_)
            clear hK K
            (try go_frame)
            refine' takeH (i := 26) (v := _) (some 90) rfl rfl (by kernel_rfl) (by kernel_rfl) (by kernel_rfl) (fun _ _ _ h => h) (Or.inl ⟨by rfl, fun X hX => ?_⟩) hS ?_
            rotate_left
            · go_simp; exact rfl
            (try go_frame)
            refine' takeH (i := 27) (v := _) (some 91) rfl rfl (by kernel_rfl) (by kernel_rfl) (by kernel_rfl) (fun _ _ _ h => h) (Or.inl ⟨by rfl, fun X hX => ?_⟩) hS ?_
            rotate_left
            · go_simp; exact rfl
            (try go_frame)
            refine' takeH (i := 28) (v := _) (some 92) rfl rfl (by kernel_rfl) (by kernel_rfl) (by kernel_rfl) (fun _ _ _ h => h) (Or.inl ⟨by rfl, fun X hX => ?_⟩) hS ?_
            rotate_left
            · go_simp; exact rfl
            (try go_frame)
            refine wpAnyH_done (by kernel_rfl) ?_ _
            clear hS
            go_wp2_with fail
            go_roundw
            case rel =>
              obtain ⟨q, hq⟩ := Int.eq_ofNat_of_zero_le r0
              refine ⟨j + 1 + q, _, by first | rfl | go_num | (rw [hq]; go_num), by have := HJI.out; omega, Lib.hid ((HQ30.out.still (Mod.refl _ _).drew).more (by omega))⟩
            case measure => have := HJI.out; simp; omega
        · have j1 : ¬ (j : Int) < (i : Int) := by omega
          clear hlt hj
          go_wp2_with fail
          go_ret
          exact ⟨rfl, (HM1.out.trans HS.out.m).below (Nat.le_refl _) (fun _ _ h => h.elim)⟩
end Go.Proofs.Ytodcadcapmhgfaa
