/- TimersOrder's walk. (printed by genlaw12.py) -/
import Derived.Test.YtodcadcapmhgfaaTlA
namespace Go.Proofs.Ytodcadcapmhgfaa
open Go.RowKit

set_option maxHeartbeats 4000000 in
set_option maxRecDepth 10000 in
theorem order_any {w : World} {v : Value} {l : List Tm} {now : Nat} (hv : TmV w v l) (hok : ∀ t ∈ l, okTm t) :
    Calls Try.prog 4 #[v, .int .u64 (now : Int)] w fun e w' => e = .returned (.bool true) ∧ Below w.heap.size w w' := by
  have HV := Lib.hid hv
  have HOK := Lib.hid hok
  obtain ⟨a, cap, rfl, hcap, hmax, -⟩ := hv.val
  obtain ⟨m, hm⟩ : ∃ m, m = l.length := ⟨_, rfl⟩
  rw [← hm] at HV hcap ⊢
  have HM := Lib.hid hm
  clear hv hok hm hcap hmax
  by_cases h150 : (150 : Int) < (m : Int)
  · go_enter Try.func4, Try.ntmps4
    go_wp2_with (first | (go_at_call 9; (with_reducible refine (alive_any _).mono ?_); rintro e w1 ⟨rfl, hM1⟩; have HM1 := Lib.hid hM1; clear hM1) | fail)
    go_ret
    exact ⟨rfl, HM1.out.below (Nat.le_refl _) (fun _ _ h => h.elim)⟩
  have hm150 : (m : Int) ≤ 150 := by omega
  clear h150
  go_enter Try.func4, Try.ntmps4
  go_wp2_with (first | (go_at_call 9; (with_reducible refine (alive_any _).mono ?_); rintro e w1 ⟨rfl, hM1⟩; have HM1 := Lib.hid hM1; clear hM1) | (go_at_call 18; (with_reducible refine (lq_new w1).mono ?_); rintro e w2 ⟨qb, mb, rfl, hq2, hqb⟩; have HQ2 := Lib.hid hq2; have HQB := Lib.hid hqb; clear hq2 hqb) | fail)
  go_loopw [6] (fun s1 wr => ∃ (i : Nat), s1 = .int .i64 (i : Int) ∧ i ≤ m ∧ Hid (LQ w1 wr qb mb (1000 * i) (setAll (l.take i) []) noF)) (fun s1 _ => m - (match s1 with | .int _ z => z.toNat | _ => 0))
  case atStart => exact ⟨0, rfl, Nat.zero_le _, HQ2.out⟩
  case round =>
    obtain ⟨i, rfl, hi, HS⟩ := hrel
    have i0 : (0 : Int) ≤ (i : Int) := by omega
    have HI := Lib.hid hi
    by_cases hlt : i < m
    · have i1 : (i : Int) < (m : Int) := by omega
      obtain ⟨x, hx⟩ : ∃ x, l[i]? = some x := ⟨_, List.getElem?_eq_getElem (by have := HM.out; omega)⟩
      obtain ⟨b, off, cap2, hv1, hr⟩ := ((HV.out.kept HM1.out).kept HS.out.m).at hx
      simp only [Value.slice.injEq] at hv1
      obtain ⟨rfl, -, -⟩ := hv1
      have HR := Lib.hid hr
      have HX := Lib.hid hx
      have HKX : Hid (okTm x) := Lib.hid (HOK.out x (List.mem_of_getElem? hx))
      have hset : setAll (l.take (i + 1)) [] = (setT x (setAll (l.take i) [])).2 := by rw [List.take_add_one, hx]; exact setAll_snoc _ _ _
      have HSET := Lib.hid hset
      have HN : Hid (1000 * i ≤ 1000000000) := Lib.hid (by omega)
      clear hr hx hset hi hlt
      go_wp2_with (first
        | ((with_reducible refine wpList_load_tm ?_ (.tmp 28) ?_ b (off + i * 3) ?_ x HR.out ?_); (· exact rfl); (· exact rfl); (· exact rfl))
        | (go_at_call 11; (with_reducible refine (lq_set x HS.out HKX.out HN.out (setT x (setAll (l.take i) [])).1 (setT x (setAll (l.take i) [])).2 rfl).mono ?_); rintro e w5 ⟨rfl, hq5, -⟩; have HQ5 := Lib.hid hq5; clear hq5)
        | fail)
      go_roundw
      case rel => exact ⟨i + 1, by go_num, by have := HI.out; omega, by rw [HSET.out]; exact Lib.hid (HQ5.out.more (by omega))⟩
      case measure => simp; omega
    · have i1 : ¬ (i : Int) < (m : Int) := by omega
      obtain rfl : i = m := by omega
      clear hlt hi
      have hall : Hid (∃ L, L = setAll l [] ∧ LQ w1 wr qb mb (1000 * i) L noF ∧ QL L ∧ L.length ≤ i) := by
        have e : l.take i = l := List.take_of_length_le (by have := HM.out; omega)
        have h1 := HS.out
        rw [e] at h1
        exact Lib.hid ⟨_, rfl, h1, h1.l, by have := (setAll_ok l (L := []) QL.nil (fun t ht => (HOK.out t ht).1)).2; rw [HM.out]; simpa using this⟩
      clear HS
      obtain ⟨L, hL, hq, hql, hlen⟩ := hall.out
      have HL := Lib.hid hL
      have HQ3 := Lib.hid hq
      have HQL := Lib.hid hql
      obtain ⟨M, hM⟩ : ∃ M, M = L.length := ⟨_, rfl⟩
      have HML := Lib.hid hM
      have M0 : (0 : Int) ≤ (M : Int) := by omega
      have M1 : (M : Int) ≤ (i : Int) := by omega
      clear hL hq hql hlen hM hall
      go_wp2_with (first
        | (go_at_call 14; (with_reducible refine (lq_lenA (M : Int) HQ3.out (by rw [HML.out])).mono ?_); rintro e w6 ⟨rfl, rfl⟩)
        | fail)
      go_loopw [8, 9, 10] (fun s8 s9 s10 wq => ∃ (k last : Nat), s8 = .int .i64 (k : Int) ∧ s9 = .int .u64 (last : Int) ∧ s10 = .int .i64 (k : Int) ∧ k ≤ M ∧ Hid (LQ w1 wq qb mb (1000 * i + 1000 * k) (L.drop k) noF ∧ ∀ x, L[k]? = some x → last ≤ x.t)) (fun _ _ s10 _ => i + 1 - (match s10 with | .int _ z => z.toNat | _ => 0))
      case atStart => exact ⟨0, 0, rfl, rfl, rfl, Nat.zero_le _, Lib.hid ⟨HQ3.out, fun _ _ => Nat.zero_le _⟩⟩
      case round =>
        obtain ⟨k, last, rfl, rfl, rfl, hk, HS⟩ := hrel
        have k0 : (0 : Int) ≤ (k : Int) := by omega
        have k1 : (k : Int) ≤ (M : Int) := by omega
        have HK := Lib.hid hk
        have HN : Hid (1000 * i + 1000 * k ≤ 1000000000) := Lib.hid (by omega)
        clear hk
        by_cases hd : ∃ x, L[k]? = some x ∧ ¬ now < x.t
        · obtain ⟨x, hx, hnx⟩ := hd
          have HX := Lib.hid hx
          have HD := Lib.hid (due_drop hx hnx)
          obtain ⟨tx, htx⟩ : ∃ tx, tx = x.t := ⟨_, rfl⟩
          have n1 : decide ((now : Int) < (tx : Int)) = false := by simp; omega
          have n2 : decide (now < tx) = false := by simp; omega
          have hlx := HS.out.2 x hx
          have n3 : decide ((tx : Int) < (last : Int)) = false := by simp; omega
          have n4 : decide (tx < last) = false := by simp; omega
          have hkM : k < M := by have := (List.getElem?_eq_some_iff.1 hx).1; have := HML.out; omega
          have HKM := Lib.hid hkM
          have hnext : ∀ y, L[k + 1]? = some y → x.t ≤ y.t := fun y hy => sorted_le HQL.out.s k (k + 1) x y hx hy (by omega)
          have HNX := Lib.hid hnext
          have htA : tmA ((some x : Option Tm).getD tm0) = #[.int .u64 (tx : Int), .int .i64 x.c, .int .i64 x.k] := by rw [htx]; rfl
          have HTA := Lib.hid htA
          have HTX := Lib.hid htx
          clear hx hnx htx hlx hkM hnext htA
          go_wp2_with (first
            | (go_at_call 10; (with_reducible refine (lq_dueA (now : Int) #[.int .u64 (tx : Int), .int .i64 x.c, .int .i64 x.k] true now rfl HS.out.1 HN.out (some x) (L.drop (k + 1)) HD.out HTA.out rfl).mono ?_); rintro e w7 ⟨rfl, hq7, -⟩; have HQ7 := Lib.hid hq7; clear hq7)
            | fail)
          go_roundw
          case rel => exact ⟨k + 1, tx, by go_num, rfl, by go_num, by have := HKM.out; omega, Lib.hid ⟨(HQ7.out.still ((Mod.refl _ _).alloc _)).more (by omega), fun y hy => by rw [HTX.out]; exact HNX.out y hy⟩⟩
          case measure => have := HKM.out; simp; omega
        · have hdn : dueT now (L.drop k) = (none, L.drop k) := by
            by_cases hkl : k < L.length
            · obtain ⟨x, hx⟩ : ∃ x, L[k]? = some x := ⟨_, List.getElem?_eq_getElem hkl⟩
              exact due_drop_no hx ((Nat.lt_or_ge now x.t).elim id (fun h => absurd ⟨x, hx, by omega⟩ hd))
            · exact due_end (by omega)
          have HD := Lib.hid hdn
          obtain ⟨r, hr⟩ : ∃ r, r = (L.drop k).length := ⟨_, rfl⟩
          have HRR := Lib.hid hr
          have hrk : (r : Int) = (M : Int) - (k : Int) := by have := HML.out; rw [hr, List.length_drop]; have := HK.out; omega
          have r1 : ((r : Int) == (M : Int) - (k : Int)) = true := by simp [hrk]
          have r0 : (0 : Int) ≤ (r : Int) := by omega
          clear hr hdn
          by_cases hz : r = 0
          · have z1 : ((r : Int) == 0) = true := by simp [hz]
            clear hz hrk hd
            go_wp2_with (first
              | (go_at_call 10; (with_reducible refine (lq_dueA (now : Int) #[.int .u64 0, .int .i64 0, .int .i64 0] false now rfl HS.out.1 HN.out none (L.drop k) HD.out rfl rfl).mono ?_); rintro e w7 ⟨rfl, hq7, -⟩; have HQ7 := Lib.hid (hq7.still ((Mod.refl (fun _ => False) w7).alloc (.cells #[.int .u64 0, .int .i64 0, .int .i64 0] 27))); clear hq7)
              | (go_at_call 14; (with_reducible refine (lq_lenA (r : Int) HQ7.out (by rw [HRR.out])).mono ?_); rintro e w8 ⟨rfl, rfl⟩)
              | fail)
            go_ret
            exact ⟨rfl, (HM1.out.trans HQ7.out.m).below (Nat.le_refl _) (fun _ _ h => h.elim)⟩
          · have z1 : ((r : Int) == 0) = false := by simp; omega
            have hkl : k < L.length := by have := HML.out; have := HK.out; omega
            obtain ⟨x, hx⟩ : ∃ x, L[k]? = some x := ⟨_, List.getElem?_eq_getElem hkl⟩
            have hnx : now < x.t := (Nat.lt_or_ge now x.t).elim id (fun h => absurd ⟨x, hx, by omega⟩ hd)
            obtain ⟨tx, htx⟩ : ∃ tx, tx = x.t := ⟨_, rfl⟩
            have n1 : decide ((now : Int) < (tx : Int)) = true := by simp; omega
            have n2 : decide (now < tx) = true := by simp; omega
            have HNE : Hid (((nextN (L.drop k) : Nat) : Int) = (tx : Int)) := Lib.hid (by rw [drop_cons hx, htx]; rfl)
            clear hz hrk hd hkl hx hnx htx
            go_wp2_with (first
              | (go_at_call 10; (with_reducible refine (lq_dueA (now : Int) #[.int .u64 0, .int .i64 0, .int .i64 0] false now rfl HS.out.1 HN.out none (L.drop k) HD.out rfl rfl).mono ?_); rintro e w7 ⟨rfl, hq7, -⟩; have HQ7 := Lib.hid (hq7.still ((Mod.refl (fun _ => False) w7).alloc (.cells #[.int .u64 0, .int .i64 0, .int .i64 0] 27))); clear hq7)
              | (go_at_call 14; (with_reducible refine (lq_lenA (r : Int) HQ7.out (by rw [HRR.out])).mono ?_); rintro e w8 ⟨rfl, rfl⟩)
              | (go_at_call 16; (with_reducible refine (lq_nextA (tx : Int) HQ7.out HNE.out).mono ?_); rintro e w8 ⟨rfl, rfl⟩)
              | fail)
            go_ret
            exact ⟨rfl, (HM1.out.trans HQ7.out.m).below (Nat.le_refl _) (fun _ _ h => h.elim)⟩
end Go.Proofs.Ytodcadcapmhgfaa
