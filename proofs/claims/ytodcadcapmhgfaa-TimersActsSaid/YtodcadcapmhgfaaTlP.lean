/- TimersDrops' walk. (printed by genlaw12.py) -/
import Derived.Test.YtodcadcapmhgfaaTlF
namespace Go.Proofs.Ytodcadcapmhgfaa
open Go.RowKit

set_option maxHeartbeats 4000000 in
set_option maxRecDepth 10000 in
theorem drops_any {w : World} {v : Value} {l : List Tm} {c : Int} (hv : TmV w v l) (hok : ∀ t ∈ l, okTm t) :
    Calls Try.prog 6 #[v, .int .i64 c] w fun e w' => e = .returned (.bool true) ∧ Below w.heap.size w w' := by
  have HV := Lib.hid hv
  have HOK := Lib.hid hok
  obtain ⟨a, cap, rfl, hcap, hmax, -⟩ := hv.val
  obtain ⟨m, hm⟩ : ∃ m, m = l.length := ⟨_, rfl⟩
  rw [← hm] at HV hcap ⊢
  have HM := Lib.hid hm
  clear hv hok hm hcap hmax
  by_cases h150 : (150 : Int) < (m : Int)
  · go_enter Try.func6, Try.ntmps6
    go_wp2_with (first | (go_at_call 9; (with_reducible refine (alive_any _).mono ?_); rintro e w1 ⟨rfl, hM1⟩; have HM1 := Lib.hid hM1; clear hM1) | fail)
    go_ret
    exact ⟨rfl, HM1.out.below (Nat.le_refl _) (fun _ _ h => h.elim)⟩
  have hm150 : (m : Int) ≤ 150 := by omega
  clear h150
  go_enter Try.func6, Try.ntmps6
  go_wp2_with (first | (go_at_call 9; (with_reducible refine (alive_any _).mono ?_); rintro e w1 ⟨rfl, hM1⟩; have HM1 := Lib.hid hM1; clear hM1) | (go_at_call 18; (with_reducible refine (lq_new w1).mono ?_); rintro e w2 ⟨qb, mb, rfl, hq2, hqb⟩; have HQ2 := Lib.hid hq2; have HQB := Lib.hid hqb; clear hq2 hqb) | fail)
  go_loopw [6] (fun s1 wr => ∃ (i : Nat), s1 = .int .i64 (i : Int) ∧ i ≤ m ∧ Hid (LQ w1 wr qb mb (1000 * i) (setAll (l.take i) []) noF)) (fun s1 _ => m - (match s1 with | .int _ z => z.toNat | _ => 0))
  case atStart => exact ⟨0, rfl, Nat.zero_le _, HQ2.out⟩
  case round =>
    obtain ⟨i, rfl, hi, HS⟩ := hrel
    have i0 : (0 : Int) ≤ (i : Int) := by omega
    have HI := Lib.hid hi
    by_cases hlt : i < m
    · have i1 : (i : Int) < (m : Int) := by omega
      obtain ⟨x, hx⟩ : ∃ x, l[i]? = some x := ⟨_, List.getElem?_eq_getElem (by have := HM.out; omega)⟩
      obtain ⟨b, off, cap2, hv1, hr⟩ := ((HV.out.kept HM1.out).kept HS.out.m).at hx
      simp only [Value.slice.injEq] at hv1
      obtain ⟨rfl, -, -⟩ := hv1
      have HR := Lib.hid hr
      have HX := Lib.hid hx
      have HKX : Hid (okTm x) := Lib.hid (HOK.out x (List.mem_of_getElem? hx))
      have hset : setAll (l.take (i + 1)) [] = (setT x (setAll (l.take i) [])).2 := by rw [List.take_add_one, hx]; exact setAll_snoc _ _ _
      have HSET := Lib.hid hset
      have HN : Hid (1000 * i ≤ 1000000000) := Lib.hid (by omega)
      clear hr hx hset hi hlt
      go_wp2_with (first
        | ((with_reducible refine wpList_load_tm ?_ (.tmp 25) ?_ b (off + i * 3) ?_ x HR.out ?_); (· exact rfl); (· exact rfl); (· exact rfl))
        | (go_at_call 11; (with_reducible refine (lq_set x HS.out HKX.out HN.out (setT x (setAll (l.take i) [])).1 (setT x (setAll (l.take i) [])).2 rfl).mono ?_); rintro e w5 ⟨rfl, hq5, -⟩; have HQ5 := Lib.hid hq5; clear hq5)
        | fail)
      go_roundw
      case rel => exact ⟨i + 1, by go_num, by have := HI.out; omega, by rw [HSET.out]; exact Lib.hid (HQ5.out.more (by omega))⟩
      case measure => simp; omega
    · have i1 : ¬ (i : Int) < (m : Int) := by omega
      obtain rfl : i = m := by omega
      clear hlt hi
      have hall : Hid (∃ L, L = setAll l [] ∧ LQ w1 wr qb mb (1000 * i) L noF ∧ QL L ∧ L.length ≤ i) := by
        have e : l.take i = l := List.take_of_length_le (by have := HM.out; omega)
        have h1 := HS.out
        rw [e] at h1
        exact Lib.hid ⟨_, rfl, h1, h1.l, by have := (setAll_ok l (L := []) QL.nil (fun t ht => (HOK.out t ht).1)).2; rw [HM.out]; simpa using this⟩
      clear HS
      obtain ⟨L, hL, hq, hql, hlen⟩ := hall.out
      have HL := Lib.hid hL
      have HQ3 := Lib.hid hq
      have HQL := Lib.hid hql
      obtain ⟨M, hM⟩ : ∃ M, M = L.length := ⟨_, rfl⟩
      have HML := Lib.hid hM
      have M0 : (0 : Int) ≤ (M : Int) := by omega
      have M1 : (M : Int) ≤ (i : Int) := by omega
      clear hL hq hql hlen hM hall
      have hL200 : L.length ≤ 200 := by have := HML.out; omega
      have HL2 := Lib.hid hL200
      clear hL200
      go_wp2_with (first
        | (go_at_call 15; (with_reducible refine (lq_list HQ3.out).mono ?_); rintro e w3 ⟨a3, c3, rfl, ht3, hM3, -⟩; have HT3 := Lib.hid ht3; have HQ4 := Lib.hid (HQ3.out.still hM3); clear ht3 hM3)
        | fail)
      rw [← HML.out] at HT3 ⊢
      go_loopw [8, 9] (fun s8 s9 wr => ∃ (j : Nat) (a5 : Option Addr) (n5 c5 : Nat), s8 = .slice a5 n5 c5 ∧ s9 = .int .i64 (j : Int) ∧ j ≤ M ∧ n5 = (dropL c (L.take j)).length ∧ Hid (OwnT wr w3.heap.size (.slice a5 n5 c5) (dropL c (L.take j)) ∧ Mod (fun _ => False) w3 wr)) (fun _ s9 _ => M - (match s9 with | .int _ z => z.toNat | _ => 0))
      case atStart => exact ⟨0, none, 0, 0, rfl, rfl, Nat.zero_le _, by simp [dropL], Lib.hid ⟨by simpa [dropL] using OwnT.nil w3 w3.heap.size, Mod.refl _ _⟩⟩
      case round =>
        obtain ⟨j, a5, n5, c5, rfl, rfl, hj, hn5, HS⟩ := hrel
        have j0 : (0 : Int) ≤ (j : Int) := by omega
        have HJ := Lib.hid hj
        have h5l : (dropL c (L.take j)).length ≤ j := by
          have := List.length_filter_le (fun t : Tm => !decide (t.c = c)) (L.take j)
          unfold dropL
          rw [List.length_take] at this
          omega
        have HN5 := Lib.hid (And.intro hn5 h5l)
        by_cases hlt : j < M
        · have j1 : (j : Int) < (M : Int) := by omega
          obtain ⟨x, hx⟩ : ∃ x, L[j]? = some x := ⟨_, List.getElem?_eq_getElem (by have := HML.out; omega)⟩
          obtain ⟨b, off, cap2, hv1, hr⟩ := HT3.out.at hx
          simp only [Value.slice.injEq] at hv1
          obtain ⟨rfl, -, -⟩ := hv1
          have HR : Hid (wr.rangeAt b (off + j * 3) (tmL x)) := Lib.hid (fun k u hu => HS.out.2.cellAt (hr k u hu) (fun e => e))
          have HSN := Lib.hid (take_snocT hx)
          have d1 : wr.cell? ⟨b, off + j * 3 + 1, none⟩ = some (.int .i64 x.c) := HR.out 1 _ rfl
          have HJM := Lib.hid hlt
          clear hr hx hj hlt hn5 h5l
          by_cases hc : x.c = c
          · have q1 : (x.c != c) = false := by simp [hc]
            have HD : Hid (dropL c (L.take (j + 1)) = dropL c (L.take j)) := Lib.hid (by rw [HSN.out]; simp [dropL, hc])
            clear hc
            go_wp2_with fail
            go_roundw
            case rel => exact ⟨j + 1, a5, n5, c5, rfl, by go_num, by have := HJM.out; omega, by rw [HD.out]; exact HN5.out.1, by rw [HD.out]; exact HS⟩
            case measure => have := HJM.out; simp; omega
          · have q1 : (x.c != c) = true := by simpa using hc
            have HD : Hid (dropL c (L.take (j + 1)) = dropL c (L.take j) ++ [x]) := Lib.hid (by rw [HSN.out]; simp [dropL, hc])
            have H200 : Hid ((dropL c (L.take j)).length ≤ 200 ∧ w3.heap.size ≤ wr.heap.size) := Lib.hid ⟨by have := HN5.out.2; have := HJM.out; omega, HS.out.2.size⟩
            have HOA : Hid (OwnT (wr.alloc (.cells (tmA x) 27)) w3.heap.size (.slice a5 n5 c5) (dropL c (L.take j)) ∧ w3.heap.size ≤ (wr.alloc (.cells (tmA x) 27)).heap.size ∧ Mod (fun _ => False) w3 (wr.alloc (.cells (tmA x) 27))) := Lib.hid ⟨HS.out.1.still ((Mod.refl _ _).alloc _), (HS.out.2.alloc _).size, HS.out.2.alloc _⟩
            clear hc
            go_wp2_with (first
              | ((with_reducible refine wpList_load_tm ?_ (.tmp 46) ?_ b (off + j * 3) ?_ x HR.out ?_); (· exact rfl); (· exact rfl); (· exact rfl))
              | ((with_reducible refine wpList_build_tm ?_ (.tmp 47) ?_ x ?_ ?_); (· exact rfl); (· exact rfl); (· exact rfl))
              | ((with_reducible refine wpList_append_tm ?_ (.tmp 43) (.tmp 48) ?_ (.slice a5 n5 c5) (dropL c (L.take j)) w3.heap.size wr.heap.size ?_ HOA.out.1 H200.out.1 HOA.out.2.1 ?_ x (Blk.new wr (tmA x) 27) ?_); (· exact rfl); (· exact rfl); (· exact rfl); (· exact rfl); intro ap cp w9 ho9 hM9 hat9; rw [← HN5.out.1] at ho9; rw [← HN5.out.1]; have HO9 := Lib.hid (And.intro ho9 (HOA.out.2.2.trans' hM9 (fun k hk e => by have := (HOA.out.1.lt k e).1; omega))); clear ho9 hM9 hat9)
              | fail)
            go_roundw
            case rel => exact ⟨j + 1, ap, n5 + 1, cp, rfl, by go_num, by have := HJM.out; omega, by rw [HD.out, List.length_append, ← HN5.out.1]; rfl, by rw [HD.out]; exact HO9⟩
            case measure => have := HJM.out; simp; omega
        · have j1 : ¬ (j : Int) < (M : Int) := by omega
          obtain rfl : j = M := by omega
          have htk : L.take j = L := List.take_of_length_le (by have := HML.out; omega)
          have ho := HS.out.1
          have hn6 := HN5.out.1
          rw [htk] at ho hn6
          have HO := Lib.hid ho
          have HN6 := Lib.hid hn6
          have HF : Hid (LQ w1 wr qb mb (1000 * i) L (fun k => (Value.slice a5 n5 c5).ownBlock = some k)) := Lib.hid (HQ4.out.fresh HS.out.2 (fun k hk => .inr (ho.lt k hk)))
          have HN3 : Hid (1000 * i ≤ 1000000000) := Lib.hid (by omega)
          have n50 : (0 : Int) ≤ (n5 : Int) := by omega
          have n51 : (n5 : Int) ≤ (j : Int) := by rw [hn5]; omega
          have HZ : Hid ((L.length : Int) - ((dropL c L).length : Int) = (j : Int) - (n5 : Int)) := Lib.hid (by rw [HML.out, hn6])
          clear hlt hj hn5 h5l htk ho hn6
          go_wp2_with (first
            | (go_at_call 13; (with_reducible refine (lq_dropA ((j : Int) - (n5 : Int)) (dropL c L) c HF.out HN3.out rfl HZ.out).mono ?_); rintro e w6 ⟨rfl, hq6, hM6⟩; have HQ6 := Lib.hid hq6; have HO6 := Lib.hid (HO.out.kept hM6 (fun g hg e => e hg)); clear hq6 hM6)
            | (go_at_call 15; (with_reducible refine (lq_list HQ6.out).mono ?_); rintro e w7 ⟨a7, c7, rfl, ht7, hM7, -⟩; have HT7 := Lib.hid ht7; have HQ7 := Lib.hid (HQ6.out.still hM7); have HO7 := Lib.hid (HO6.out.still hM7).tmv; clear ht7 hM7)
            | (go_at_call 25; (with_reducible refine (same_tm HT7.out HO7.out ?_ ?_).mono ?_); (· have := HML.out; have := drop_len c L; have := HL2.out; omega); (· have := drop_len c L; have := HL2.out; omega); rintro e w8 ⟨he, hM8⟩; rw [decide_eq_true rfl] at he; subst he; have HQ8 := Lib.hid (HQ7.out.still hM8); clear hM8)
            | fail)
          go_ret
          exact ⟨rfl, (HM1.out.trans HQ8.out.m).below (Nat.le_refl _) (fun _ _ h => h.elim)⟩
end Go.Proofs.Ytodcadcapmhgfaa
