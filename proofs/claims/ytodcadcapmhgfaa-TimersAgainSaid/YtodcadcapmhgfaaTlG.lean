/- TimersAgain's walk. (printed by genlaw12.py) -/
import Derived.Test.YtodcadcapmhgfaaTlC
namespace Go.Proofs.Ytodcadcapmhgfaa
open Go.RowKit

set_option maxHeartbeats 4000000 in
set_option maxRecDepth 10000 in
theorem again_any {w : World} {v : Value} {l : List Tm} {now : Nat} (hv : TmV w v l) (hok : ∀ t ∈ l, okTm t) (hnow : now ≤ neverN) :
    Calls Try.prog 8 #[v, .int .u64 (now : Int)] w fun e w' => e = .returned (.bool true) ∧ Below w.heap.size w w' := by
  have HV := Lib.hid hv
  have HOK := Lib.hid hok
  have HNW := Lib.hid hnow
  obtain ⟨a, cap, rfl, hcap, hmax, -⟩ := hv.val
  obtain ⟨m, hm⟩ : ∃ m, m = l.length := ⟨_, rfl⟩
  rw [← hm] at HV hcap ⊢
  have HM := Lib.hid hm
  clear hv hok hnow hm hcap hmax
  by_cases h150 : (100 : Int) < (m : Int)
  · go_enter Try.func8, Try.ntmps8
    go_wp2_with (first | (go_at_call 9; (with_reducible refine (alive_any _).mono ?_); rintro e w1 ⟨rfl, hM1⟩; have HM1 := Lib.hid hM1; clear hM1) | fail)
    go_ret
    exact ⟨rfl, HM1.out.below (Nat.le_refl _) (fun _ _ h => h.elim)⟩
  have hm150 : (m : Int) ≤ 100 := by omega
  clear h150
  go_enter Try.func8, Try.ntmps8
  go_wp2_with (first | (go_at_call 9; (with_reducible refine (alive_any _).mono ?_); rintro e w1 ⟨rfl, hM1⟩; have HM1 := Lib.hid hM1; clear hM1) | (go_at_call 18; (with_reducible refine (lq_new w1).mono ?_); rintro e w2 ⟨qb, mb, rfl, hq2, hqb⟩; have HQ2 := Lib.hid hq2; have HQB := Lib.hid hqb; clear hq2 hqb) | fail)
  go_loopw [6] (fun s1 wr => ∃ (i : Nat), s1 = .int .i64 (i : Int) ∧ i ≤ m ∧ Hid (LQ w1 wr qb mb (1000 * i) (setAll (l.take i) []) noF)) (fun s1 _ => m - (match s1 with | .int _ z => z.toNat | _ => 0))
  case atStart => exact ⟨0, rfl, Nat.zero_le _, HQ2.out⟩
  case round =>
    obtain ⟨i, rfl, hi, HS⟩ := hrel
    have i0 : (0 : Int) ≤ (i : Int) := by omega
    have HI := Lib.hid hi
    by_cases hlt : i < m
    · have i1 : (i : Int) < (m : Int) := by omega
      obtain ⟨x, hx⟩ : ∃ x, l[i]? = some x := ⟨_, List.getElem?_eq_getElem (by have := HM.out; omega)⟩
      obtain ⟨b, off, cap2, hv1, hr⟩ := ((HV.out.kept HM1.out).kept HS.out.m).at hx
      simp only [Value.slice.injEq] at hv1
      obtain ⟨rfl, -, -⟩ := hv1
      have HR := Lib.hid hr
      have HX := Lib.hid hx
      have HKX : Hid (okTm x) := Lib.hid (HOK.out x (List.mem_of_getElem? hx))
      have hset : setAll (l.take (i + 1)) [] = (setT x (setAll (l.take i) [])).2 := by rw [List.take_add_one, hx]; exact setAll_snoc _ _ _
      have HSET := Lib.hid hset
      have HN : Hid (1000 * i ≤ 1000000000) := Lib.hid (by omega)
      clear hr hx hset hi hlt
      go_wp2_with (first
        | ((with_reducible refine wpList_load_tm ?_ (.tmp 25) ?_ b (off + i * 3) ?_ x HR.out ?_); (· exact rfl); (· exact rfl); (· exact rfl))
        | (go_at_call 11; (with_reducible refine (lq_set x HS.out HKX.out HN.out (setT x (setAll (l.take i) [])).1 (setT x (setAll (l.take i) [])).2 rfl).mono ?_); rintro e w5 ⟨rfl, hq5, -⟩; have HQ5 := Lib.hid hq5; clear hq5)
        | fail)
      go_roundw
      case rel => exact ⟨i + 1, by go_num, by have := HI.out; omega, by rw [HSET.out]; exact Lib.hid (HQ5.out.more (by omega))⟩
      case measure => simp; omega
    · have i1 : ¬ (i : Int) < (m : Int) := by omega
      obtain rfl : i = m := by omega
      clear hlt hi
      have hall : Hid (∃ L, L = setAll l [] ∧ LQ w1 wr qb mb (1000 * i) L noF ∧ QL L ∧ L.length ≤ i) := by
        have e : l.take i = l := List.take_of_length_le (by have := HM.out; omega)
        have h1 := HS.out
        rw [e] at h1
        exact Lib.hid ⟨_, rfl, h1, h1.l, by have := (setAll_ok l (L := []) QL.nil (fun t ht => (HOK.out t ht).1)).2; rw [HM.out]; simpa using this⟩
      clear HS
      obtain ⟨L, hL, hq, hql, hlen⟩ := hall.out
      have HL := Lib.hid hL
      have HQ3 := Lib.hid hq
      have HQL := Lib.hid hql
      obtain ⟨M, hM⟩ : ∃ M, M = L.length := ⟨_, rfl⟩
      have HML := Lib.hid hM
      have M0 : (0 : Int) ≤ (M : Int) := by omega
      have M1 : (M : Int) ≤ (i : Int) := by omega
      clear hL hq hql hlen hM hall
      have HN3 : Hid (1000 * i ≤ 1000000000) := Lib.hid (by omega)
      by_cases hnone : dueT now L = (none, L) ∧ now < nextN L
      · obtain ⟨nx, hnx⟩ : ∃ nx, nx = nextN L := ⟨_, rfl⟩
        have HNX : Hid (((nextN L : Nat) : Int) = (nx : Int)) := Lib.hid (by rw [hnx])
        have n1 : decide ((now : Int) < (nx : Int)) = true := by have := hnone.2; simp; omega
        have n2 : decide (now < nx) = true := by have := hnone.2; simp; omega
        have HD := Lib.hid hnone.1
        clear hnone hnx
        go_wp2_with (first
          | (go_at_call 10; (with_reducible refine (lq_dueA (now : Int) #[.int .u64 0, .int .i64 0, .int .i64 0] false now rfl HQ3.out HN3.out none L HD.out rfl rfl).mono ?_); rintro e w7 ⟨rfl, hq7, -⟩; have HQ7 := Lib.hid (hq7.fresh (F' := fun k => k = w7.heap.size) ((Mod.refl (fun _ => False) w7).alloc (.cells #[.int .u64 0, .int .i64 0, .int .i64 0] 27)) (fun k hk => .inr (by subst hk; exact ⟨Nat.le_refl _, by simp⟩))); clear hq7)
          | (go_at_call 16; (with_reducible refine (lq_nextA (nx : Int) HQ7.out HNX.out).mono ?_); rintro e w8 ⟨rfl, rfl⟩)
          | fail)
        go_ret
        exact ⟨rfl, (HM1.out.trans HQ7.out.m).below (Nat.le_refl _) (fun _ _ h => h.elim)⟩
      by_cases hnil : L = []
      · have hnow : now = neverN := by
          have h2 := HNW.out
          rw [hnil] at hnone
          have : ¬ now < neverN := fun e => hnone ⟨rfl, e⟩
          omega
        subst hnil
        obtain ⟨nx, hnx⟩ : ∃ nx, nx = now := ⟨_, rfl⟩
        have HNX : Hid (((nextN [] : Nat) : Int) = (nx : Int)) := Lib.hid (by rw [hnx, hnow]; rfl)
        have n1 : decide ((now : Int) < (nx : Int)) = false := by simp; omega
        have n2 : decide (now < nx) = false := by simp; omega
        have hnb : neverB nx = true := by rw [hnx, hnow]; rfl
        clear hnone hnx hnow
        go_wp2_with (first
          | (go_at_call 10; (with_reducible refine (lq_dueA (now : Int) #[.int .u64 0, .int .i64 0, .int .i64 0] false now rfl HQ3.out HN3.out none [] rfl rfl rfl).mono ?_); rintro e w7 ⟨rfl, hq7, -⟩; have HQ7 := Lib.hid (hq7.fresh (F' := fun k => k = w7.heap.size) ((Mod.refl (fun _ => False) w7).alloc (.cells #[.int .u64 0, .int .i64 0, .int .i64 0] 27)) (fun k hk => .inr (by subst hk; exact ⟨Nat.le_refl _, by simp⟩))); clear hq7)
          | (go_at_call 16; (with_reducible refine (lq_nextA (nx : Int) HQ7.out HNX.out).mono ?_); rintro e w8 ⟨rfl, rfl⟩)
          | ((with_reducible refine wpList_never_g (.tmp 42) ?_ ?_ (n := nx) ?_ ?_); (· exact rfl); (· exact rfl); (· exact rfl))
          | fail)
        go_ret
        exact ⟨rfl, (HM1.out.trans HQ7.out.m).below (Nat.le_refl _) (fun _ _ h => h.elim)⟩
      obtain ⟨x, R, hLx⟩ : ∃ x R, L = x :: R := by
        cases hh : L with
        | nil => exact absurd hh hnil
        | cons x R => exact ⟨x, R, rfl⟩
      subst hLx
      have hdx : ¬ now < x.t := fun e => hnone ⟨by rw [due_cons, if_pos e], e⟩
      have HD : Hid (dueT now (x :: R) = (some x, R)) := Lib.hid (by rw [due_cons, if_neg hdx])
      have HTN := Lib.hid (tail_no HQL.out)
      have HATN : Hid (((atN x.c x.k R : Nat) : Int) = ((neverN : Nat) : Int)) := Lib.hid (by rw [at_tail HQL.out])
      have HKX : Hid (okK (x.c, x.k)) := Lib.hid (HQ3.out.k x (by simp))
      have HN4 : Hid (1000 * i + 1000 ≤ 1000000000) := Lib.hid (by omega)
      obtain ⟨r, hr⟩ : ∃ r, r = R.length := ⟨_, rfl⟩
      have HRR := Lib.hid hr
      have r0 : (0 : Int) ≤ (r : Int) := by omega
      have r1 : (r : Int) ≤ 200 := by have := HML.out; rw [List.length_cons] at this; omega
      obtain ⟨tx, htx⟩ : ∃ tx, tx = x.t := ⟨_, rfl⟩
      have HTX : Hid (tmA ((some x : Option Tm).getD tm0) = #[.int .u64 (tx : Int), .int .i64 x.c, .int .i64 x.k]) := Lib.hid (by rw [htx]; rfl)
      clear hnone hnil hr htx hdx
      by_cases hnv : now = neverN
      · have hnb : neverB now = true := by rw [hnv]; rfl
        clear hnv
        go_wp2_with (first
          | (go_at_call 10; (with_reducible refine (lq_dueA (now : Int) #[.int .u64 (tx : Int), .int .i64 x.c, .int .i64 x.k] true now rfl HQ3.out HN3.out (some x) R HD.out HTX.out rfl).mono ?_); rintro e w7 ⟨rfl, hq7, -⟩; have HQ7 := Lib.hid (hq7.fresh (F' := fun k => k = w7.heap.size) ((Mod.refl (fun _ => False) w7).alloc (.cells #[.int .u64 (tx : Int), .int .i64 x.c, .int .i64 x.k] 27)) (fun k hk => .inr (by subst hk; exact ⟨Nat.le_refl _, by simp⟩))); clear hq7)
          | (go_at_call 14; (with_reducible refine (lq_lenA (r : Int) HQ7.out (by rw [HRR.out])).mono ?_); rintro e w8 ⟨rfl, rfl⟩)
          | ((with_reducible refine wpList_never ?_ (.tmp 47) ?_ (n := now) ?_ ?_); (· exact rfl); (· exact rfl); (· exact rfl); rw [hnb])
          | fail)
        go_ret
        exact ⟨rfl, (HM1.out.trans HQ7.out.m).below (Nat.le_refl _) (fun _ _ h => h.elim)⟩
      have hnb : neverB now = false := by unfold neverB; exact decide_eq_false hnv
      obtain ⟨n1, hn1⟩ : ∃ n1, n1 = now + 1 := ⟨_, rfl⟩
      have HN1 : Hid (n1 = now + 1 ∧ n1 ≤ neverN) := Lib.hid ⟨hn1, by have := HNW.out; omega⟩
      have hwn : IntKind.u64.wrap ((now : Int) + 1) = (n1 : Int) := wrap_1 hn1 HN1.out.2
      clear hn1 hnv
      go_upto_region 17 with (first
        | (go_at_call 10; (with_reducible refine (lq_dueA (now : Int) #[.int .u64 (tx : Int), .int .i64 x.c, .int .i64 x.k] true now rfl HQ3.out HN3.out (some x) R HD.out HTX.out rfl).mono ?_); rintro e w7 ⟨rfl, hq7, -⟩; have HQ7r := Lib.hid hq7; have HQ7 := Lib.hid (hq7.still ((Mod.refl (fun _ => False) w7).alloc (.cells #[.int .u64 (tx : Int), .int .i64 x.c, .int .i64 x.k] 27))); clear hq7)
        | (go_at_call 14; (with_reducible refine (lq_lenA (r : Int) HQ7.out (by rw [HRR.out])).mono ?_); rintro e w8 ⟨rfl, rfl⟩)
        | ((with_reducible refine wpList_never ?_ (.tmp 47) ?_ (n := now) ?_ ?_); (· exact rfl); (· exact rfl); (· exact rfl); rw [hnb])
        | fail)
      obtain ⟨t, ht⟩ : ∃ t : Tm, t = ⟨n1, x.c, x.k⟩ := ⟨_, rfl⟩
      have hTA : tmA t = #[.int .u64 (n1 : Int), .int .i64 x.c, .int .i64 x.k] := by rw [ht]; rfl
      have htt : t.t = n1 ∧ t.c = x.c ∧ t.k = x.k := by rw [ht]; exact ⟨rfl, rfl, rfl⟩
      have HTT := Lib.hid htt
      have HOT : Hid (okTm t) := Lib.hid ⟨by rw [htt.1]; exact HN1.out.2, by unfold keyT; rw [htt.2.1, htt.2.2]; exact HKX.out⟩
      rw [← hTA]
      have hB8 : Blk (w7.alloc (.cells (tmA t) 27)) w7.heap.size (tmA t) 27 := Blk.new _ _ _
      have HQ8 := Lib.hid (HQ7r.out.fresh (F' := fun k => k = w7.heap.size) ((Mod.refl (fun _ => False) w7).alloc (.cells (tmA t) 27)) (fun k hk => .inr (by subst hk; exact ⟨Nat.le_refl _, by simp⟩)))
      generalize w7.alloc (.cells (tmA t) 27) = w8 at *
      have c1 : w8.cell? ⟨w7.heap.size, 1, none⟩ = some (.int .i64 x.c) := hB8.cellAt 1 (by rw [hTA]; rfl)
      have c2 : w8.cell? ⟨w7.heap.size, 2, none⟩ = some (.int .i64 x.k) := hB8.cellAt 2 (by rw [hTA]; rfl)
      have HB8 := Lib.hid hB8
      have HR8 := Lib.hid (show w8.rangeAt w7.heap.size 0 (tmL t) from hB8.whole)
      have hnn : neverB neverN = true := rfl
      have HNN := Lib.hid hnn
      clear hTA ht htt hB8 hnn
      by_cases hn1 : n1 = neverN
      · have HST : Hid (setT t R = (true, (setT t R).2)) := Lib.hid (set_neverT (by rw [HTT.out.1]; exact hn1))
        have hnb1 : neverB n1 = true := by rw [hn1]; rfl
        have HNB1 := Lib.hid hnb1
        clear hnb1 hn1
        go_wp2_with (first
          | (go_at_call 17; (with_reducible refine (lq_atA ((neverN : Nat) : Int) x.c x.k HQ8.out HKX.out HATN.out).mono ?_); rintro e w9 ⟨rfl, rfl⟩)
          | ((with_reducible refine wpList_never ?_ (.tmp 57) ?_ (n := neverN) ?_ ?_); (· exact rfl); (· exact rfl); (· exact rfl); rw [HNN.out])
          | ((with_reducible refine wpList_load_gt (.tmp 7) ?_ ?_ w7.heap.size 0 ?_ t HR8.out ?_); (· exact rfl); (· exact rfl); (· exact rfl))
          | (go_at_call 11; (with_reducible refine (lq_set t HQ8.out HOT.out HN4.out true (setT t R).2 HST.out).mono ?_); rintro e w9 ⟨rfl, hq9, -⟩; have HQ9 := Lib.hid hq9; clear hq9)
          | ((with_reducible refine wpList_never_g (.tmp 66) ?_ ?_ (n := n1) ?_ ?_); (· exact rfl); (· exact rfl); (· exact rfl); rw [HNB1.out])
          | fail)
        go_ret
        exact ⟨rfl, (HM1.out.trans HQ9.out.m).below (Nat.le_refl _) (fun _ _ h => h.elim)⟩
      · have hR200 : R.length < 200 := by have := HML.out; rw [List.length_cons] at this; omega
        have HST : Hid (setT t R = (true, (setT t R).2)) := Lib.hid (set_true hR200)
        have HNB1 : Hid (neverB n1 = false) := Lib.hid (decide_eq_false hn1)
        have HLN : Hid ((((setT t R).2).length : Int) = (r : Int) + 1) := Lib.hid (by
          rw [set_len1 (by rw [HTT.out.1]; exact hn1) (by rw [HTT.out.2.1, HTT.out.2.2]; exact HTN.out) hR200, HRR.out]
          simp)
        have HAT1 : Hid (((atN x.c x.k (setT t R).2 : Nat) : Int) = (n1 : Int)) := Lib.hid (by
          have e := at_set_same (t := t) (L := R) HQL.out.tail HOT.out.1 (by rw [HST.out])
          rw [HTT.out.2.1, HTT.out.2.2, HTT.out.1] at e
          rw [e])
        clear hn1 hR200
        go_wp2_with (first
          | (go_at_call 17; (with_reducible refine (lq_atA ((neverN : Nat) : Int) x.c x.k HQ8.out HKX.out HATN.out).mono ?_); rintro e w9 ⟨rfl, rfl⟩)
          | ((with_reducible refine wpList_never ?_ (.tmp 57) ?_ (n := neverN) ?_ ?_); (· exact rfl); (· exact rfl); (· exact rfl); rw [HNN.out])
          | ((with_reducible refine wpList_load_gt (.tmp 7) ?_ ?_ w7.heap.size 0 ?_ t HR8.out ?_); (· exact rfl); (· exact rfl); (· exact rfl))
          | (go_at_call 11; (with_reducible refine (lq_set t HQ8.out HOT.out HN4.out true (setT t R).2 HST.out).mono ?_); rintro e w9 ⟨rfl, hq9, hM9⟩; have c19 : w9.cell? ⟨w7.heap.size, 1, none⟩ = some (.int .i64 x.c) := hM9.cellAt c1 (fun h => h rfl); have c29 : w9.cell? ⟨w7.heap.size, 2, none⟩ = some (.int .i64 x.k) := hM9.cellAt c2 (fun h => h rfl); have HQ9 := Lib.hid hq9; clear hq9 hM9)
          | ((with_reducible refine wpList_never_g (.tmp 66) ?_ ?_ (n := n1) ?_ ?_); (· exact rfl); (· exact rfl); (· exact rfl); rw [HNB1.out])
          | (go_at_call 14; (with_reducible refine (lq_lenA ((r : Int) + 1) HQ9.out HLN.out).mono ?_); rintro e w10 ⟨rfl, rfl⟩)
          | (go_at_call 17; (with_reducible refine (lq_atA (n1 : Int) x.c x.k HQ9.out HKX.out HAT1.out).mono ?_); rintro e w10 ⟨rfl, rfl⟩)
          | fail)
        go_ret
        exact ⟨rfl, (HM1.out.trans HQ9.out.m).below (Nat.le_refl _) (fun _ _ h => h.elim)⟩
end Go.Proofs.Ytodcadcapmhgfaa
