/- The document's queue: Set. (printed by gentrd.py) -/
import Derived.Test.YtodcadcapmhgfaaTrC
namespace Go.Proofs.Ytodcadcapmhgfaa
open Go.RowKit

theorem tm_one (V : World) (t : Tm) : TmV (V.alloc (.cells (tmA t) 27)) (.slice (some ⟨V.heap.size, 0, none⟩) 1 1) [t] := by
  refine ⟨rfl, _, 1, rfl, Nat.le_refl _, by simp [maxLen], by simp, fun j u hu => ⟨_, 0, rfl, ?_⟩⟩
  rw [Nat.zero_add]
  exact ((Blk.new V (tmA t) 27).cell j).trans (by rw [List.flatMap_cons, List.flatMap_nil, List.append_nil, ← tmA_list] at hu; simpa using hu)
def Ins (t : Tm) (D : List Tm) (i : Nat) : Prop := i ≤ D.length ∧ ∀ j x, i ≤ j → D[j]? = some x → ahd t x = true
theorem Ins.start (t : Tm) (D : List Tm) : Ins t D D.length := ⟨Nat.le_refl _, fun j x hj hx => by have := (List.getElem?_eq_some_iff.1 hx).1; omega⟩
theorem Ins.next {t : Tm} {D : List Tm} {i k : Nat} {x : Tm} (h : Ins t D i) (hi : i = k + 1) (hx : D[k]? = some x) (ht : ahd t x = true) : Ins t D k := by
  refine ⟨by have := h.1; omega, fun j y hj hy => ?_⟩
  by_cases e : j = k
  · subst e
    rw [hx] at hy
    cases hy
    exact ht
  · exact h.2 j y (by omega) hy
theorem insT_split {t : Tm} : ∀ {D : List Tm} {i : Nat}, (∀ j x, j < i → D[j]? = some x → ahd t x = false) → (∀ x, D[i]? = some x → ahd t x = true) → i ≤ D.length → insT t D = D.take i ++ t :: D.drop i
  | [], i, _, _, h => by
    have : i = 0 := by simpa using h
    subst this
    rfl
  | y :: D, 0, _, h2, _ => by
    unfold insT
    rw [if_pos (h2 y rfl)]
    rfl
  | y :: D, i + 1, h1, h2, h3 => by
    unfold insT
    rw [if_neg (by rw [h1 0 y (by omega) rfl]; simp), insT_split (i := i) (fun j x hj hx => h1 (j + 1) x (by omega) (by simpa using hx)) (fun x hx => h2 x (by simpa using hx)) (by simpa using h3)]
    rfl
theorem sorted_lt : ∀ {L : List Tm}, SortedT L → ∀ {i j : Nat} {x y : Tm}, L[i]? = some x → L[j]? = some y → i < j → ahd x y = true
  | [], _, _, _, _, _, h, _, _ => by simp at h
  | z :: L, hs, 0, 0, x, y, _, _, h => by omega
  | z :: L, hs, 0, j + 1, x, y, h1, h2, _ => by
    simp at h1 h2
    subst h1
    exact hs.1 _ (List.mem_of_getElem? h2)
  | z :: L, hs, i + 1, 0, x, y, _, _, h => by omega
  | z :: L, hs, i + 1, j + 1, x, y, h1, h2, h => sorted_lt hs.2 (i := i) (j := j) (by simpa using h1) (by simpa using h2) (by omega)
theorem Ins.stop {t : Tm} {D : List Tm} {i : Nat} (hs : SortedT D) (h : Ins t D i) (h0 : ∀ k x, i = k + 1 → D[k]? = some x → ahd t x = false) : insT t D = D.take i ++ t :: D.drop i := by
  refine insT_split (fun j x hj hx => ?_) (fun x hx => h.2 i x (Nat.le_refl _) hx) h.1
  obtain ⟨k, rfl⟩ : ∃ k, i = k + 1 := ⟨i - 1, by omega⟩
  by_cases e : j = k
  · subst e
    exact h0 j x rfl hx
  · obtain ⟨y, hy⟩ : ∃ y, D[k]? = some y := ⟨_, List.getElem?_eq_getElem (by have := h.1; omega)⟩
    have h1 := h0 k y rfl hy
    have h2 := sorted_lt hs hx hy (by omega)
    cases h3 : ahd t x with
    | false => rfl
    | true =>
      rw [ahd_trans h3 h2] at h1
      cases h1
theorem at_has {c k : Int} {L : List Tm} (hq : QL L) : neverB (atN c k L) = !hasK c k L := by
  cases h : hasK c k L with
  | false =>
    rw [at_none (has_no.1 h)]
    rfl
  | true =>
    obtain ⟨a, ha, hk⟩ := has_iff.1 h
    rw [at_mem hq.u ha hk]
    have := hq.v a ha
    unfold neverB
    simp
    omega
set_option maxHeartbeats 8000000 in
set_option maxRecDepth 10000 in
theorem rset_any {B : Nat} {w : World} {rb : Nat} {rv : Value} {L : List Tm} (t : Tm) (q : RQ B w rb rv L) (hq : QL L) (b : Bool) (L' : List Tm) (he : setT t L = (b, L')) :
    Calls Try.prog 19 #[.pointer (some ⟨rb, 0, none⟩), .agg (tmA t)] w fun e w' => e = .returned (.bool b) ∧ RC B w w' rb rv L L' := by
  have hM1 : Mod (fun _ => False) w (w.alloc (.cells (tmA t) 27)) := (Mod.refl _ _).alloc _
  have hB1 : Blk (w.alloc (.cells (tmA t) 27)) w.heap.size (tmA t) 27 := Blk.new _ _ _
  have hq1 := q.still hM1
  have hpb : rb < w.heap.size := q.blk.lt
  have HQ0 := Lib.hid q
  obtain ⟨a, cap, rfl, hcap, -⟩ := q.val.val
  obtain ⟨A, hA⟩ : ∃ x, x = tmA t := ⟨_, rfl⟩
  rw [← hA] at hM1 hB1 hq1 ⊢
  have HA := Lib.hid hA
  obtain ⟨m, hm⟩ : ∃ m, m = L.length := ⟨_, rfl⟩
  have c0 : (w.alloc (.cells A 27)).cell? ⟨rb, 0, none⟩ = some (.slice a m cap) := by rw [hm]; exact hq1.blk.cellAt 0 rfl
  have hml : m ≤ 200 := by have := hq.n; omega
  have HQ1 := Lib.hid hq1
  have HM1 := Lib.hid hM1
  have HQL := Lib.hid hq
  have HE := Lib.hid he
  have HPB := Lib.hid hpb
  have HMM := Lib.hid hm
  have b0 : (w.alloc (.cells A 27)).cell? ⟨w.heap.size, 0, none⟩ = some (.int .u64 (t.t : Int)) := hB1.cellAt 0 (by rw [hA]; rfl)
  have b1 : (w.alloc (.cells A 27)).cell? ⟨w.heap.size, 1, none⟩ = some (.int .i64 t.c) := hB1.cellAt 1 (by rw [hA]; rfl)
  have b2 : (w.alloc (.cells A 27)).cell? ⟨w.heap.size, 2, none⟩ = some (.int .i64 t.k) := hB1.cellAt 2 (by rw [hA]; rfl)
  have HB1 := Lib.hid hB1
  have hH : hasK t.c t.k L = true ∨ hasK t.c t.k L = false := by cases hasK t.c t.k L <;> simp
  have HAT := Lib.hid (at_has (c := t.c) (k := t.k) hq)
  have hfin : ∀ (w2 : World) (L2 : List Tm), RC B (w.alloc (.cells A 27)) w2 rb (.slice a L.length cap) L L2 → RC B w w2 rb (.slice a L.length cap) L L2 := by
    rintro w2 L2 ⟨rv2, h1, h2, h3⟩
    refine ⟨rv2, h1, fun k hk => ?_, (HM1.out.mono (T := fun k => k = rb) (fun _ _ h => h.elim)).trans h3⟩
    rcases h2 k hk with e | e
    · exact .inl e
    · exact .inr ⟨by have := HM1.out.size; omega, e.2⟩
  have HFIN := Lib.hid hfin
  clear q hq he hM1 hB1 hq1 hpb hA hfin hcap
  obtain ⟨T, hT⟩ : ∃ x, x = t.t := ⟨_, rfl⟩
  rw [← hT] at b0
  have HT := Lib.hid hT
  by_cases hnev : t.t = neverN
  · have hnb : neverB T = true := by rw [hT, hnev]; rfl
    have HS : Hid (b = true ∧ L' = delT t.c t.k L) := Lib.hid (by
      have e := HE.out
      unfold setT at e
      rw [if_pos hnev] at e
      simp only [Prod.mk.injEq] at e
      exact ⟨e.1.symm, e.2.symm⟩)
    clear hnev hT hm hml
    go_enter Try.func19, Try.ntmps19
    go_wp2_with (first
      | ((with_reducible refine wpList_never ?_ (.tmp 7) ?_ (n := T) ?_ ?_); (· exact rfl); (· exact rfl); (· exact rfl); rw [hnb])
      | (go_at_call 20; (with_reducible refine (rcancel_any t.c t.k HQ1.out HQL.out).mono ?_); rintro e w2 ⟨rfl, hr2⟩; have HR2 := Lib.hid hr2; clear hr2)
      | fail)
    go_ret
    rw [HS.out.1, HS.out.2]
    exact ⟨rfl, HFIN.out _ _ HR2.out⟩
  · have hnb : neverB T = false := by rw [hT]; unfold neverB; simp [hnev]
    by_cases hfull : hasK t.c t.k L = false ∧ L.length = 200
    · have hn2 : neverB (atN t.c t.k L) = true := by rw [HAT.out, hfull.1]; rfl
      have HS : Hid (b = false ∧ L' = L) := Lib.hid (by
        have e := HE.out
        unfold setT at e
        rw [if_neg hnev, if_pos hfull] at e
        simp only [Prod.mk.injEq] at e
        exact ⟨e.1.symm, e.2.symm⟩)
      have m2 : (m : Int) = 200 := by omega
      obtain rfl : m = 200 := by omega
      obtain ⟨AT, hAT⟩ : ∃ x, x = atN t.c t.k L := ⟨_, rfl⟩
      have HATN := Lib.hid hAT
      rw [← hAT] at hn2
      clear hnev hT hm hml hfull hH hAT
      go_enter Try.func19, Try.ntmps19
      go_wp2_with (first
        | ((with_reducible refine wpList_never ?_ (.tmp 7) ?_ (n := T) ?_ ?_); (· exact rfl); (· exact rfl); (· exact rfl); rw [hnb])
        | ((with_reducible refine wpList_never ?_ (.tmp 20) ?_ (n := AT) ?_ ?_); (· exact rfl); (· exact rfl); (· exact rfl); rw [hn2])
        | (go_at_call 24; (with_reducible refine (rat_any t.c t.k HQ1.out HQL.out).mono ?_); rintro e w2 ⟨rfl, rfl⟩; rw [← HATN.out])
        | fail)
      go_ret
      rw [HS.out.1, HS.out.2]
      exact ⟨rfl, _, HQ0.out.still HM1.out, fun k hk => .inl hk, HM1.out.mono (fun _ _ h => h.elim)⟩
    · have HS : Hid (b = true ∧ L' = insT t (delT t.c t.k L)) := Lib.hid (by
        have e := HE.out
        unfold setT at e
        rw [if_neg hnev, if_neg hfull] at e
        simp only [Prod.mk.injEq] at e
        exact ⟨e.1.symm, e.2.symm⟩)
      obtain ⟨AT, hAT⟩ : ∃ x, x = atN t.c t.k L := ⟨_, rfl⟩
      have HATN := Lib.hid hAT
      obtain ⟨nb2, hn2, hgo⟩ : ∃ nb2, neverB AT = nb2 ∧ (nb2 = false ∨ (nb2 = true ∧ (m : Int) < 200)) := by
        refine ⟨_, rfl, ?_⟩
        rw [hAT, HAT.out]
        rcases hH with e | e
        · exact .inl (by rw [e]; rfl)
        · exact .inr ⟨by rw [e]; rfl, by have : L.length ≠ 200 := fun e2 => hfull ⟨e, e2⟩; omega⟩
      clear hnev hT hm hml hfull hH hAT
      have KEY : ∀ (w2 : World) (rv2 : Value), RQ B w2 rb rv2 (delT t.c t.k L) → True := fun _ _ _ => trivial
      clear KEY
      rcases hgo with rfl | ⟨rfl, hm2⟩
      all_goals
        go_enter Try.func19, Try.ntmps19
        go_upto_region 7 with (first
          | ((with_reducible refine wpList_never ?_ (.tmp 7) ?_ (n := T) ?_ ?_); (· exact rfl); (· exact rfl); (· exact rfl); rw [hnb])
          | ((with_reducible refine wpList_never ?_ (.tmp 20) ?_ (n := AT) ?_ ?_); (· exact rfl); (· exact rfl); (· exact rfl); rw [hn2])
          | (go_at_call 24; (with_reducible refine (rat_any t.c t.k HQ1.out HQL.out).mono ?_); rintro e w2 ⟨rfl, rfl⟩; rw [← HATN.out])
          | (go_at_call 20; (with_reducible refine (rcancel_any t.c t.k HQ1.out HQL.out).mono ?_); rintro e w2 ⟨rfl, hr2⟩; have HR2 := Lib.hid (HFIN.out _ _ hr2); have HB2 := Lib.hid (hr2.choose_spec.2.2.blk HB1.out (fun e => by have := HPB.out; have e' : w.heap.size = rb := e; omega)); clear hr2)
          | fail)
      all_goals
        obtain ⟨rv2, hq2, hf2, hm2'⟩ := HR2.out
        have HD : Hid (QL (delT t.c t.k L)) := Lib.hid (HQL.out.del _ _)
        obtain ⟨D, hD⟩ : ∃ x, x = delT t.c t.k L := ⟨_, rfl⟩
        rw [← hD] at HD hq2 hf2 HS
        obtain ⟨a2, cap2, rfl, hcap2, -⟩ := hq2.val.val
        obtain ⟨n, hn⟩ : ∃ n, n = D.length := ⟨_, rfl⟩
        have hq2' := hq2
        rw [← hn] at hq2' hcap2
        have c2 : w2.cell? ⟨rb, 0, none⟩ = some (.slice a2 n cap2) := hq2'.blk.cellAt 0 rfl
        have HQ2 := Lib.hid (And.intro hq2 hq2')
        have HF2 := Lib.hid (And.intro hf2 hm2')
        have HN := Lib.hid (And.intro hn HD.out.n)
        have HC2 := Lib.hid c2
        have HCAP := Lib.hid hcap2
        have HQB := Lib.hid HB2.out
        clear b0 b1 b2 c0 hD hn hcap2 hq2 hq2' hf2 hm2' HR2
      all_goals
        have n1 : (n : Int) ≤ 200 := by have := HN.out; omega
        go_wp2_with fail
        go_loopw [5] (fun s5 wr => ∃ (i : Nat), s5 = .int .i64 (i : Int) ∧ i ≤ n ∧ Hid (Ins t D i ∧ Mod (fun _ => False) w2 wr)) (fun s5 _ => (match s5 with | .int _ z => z.toNat | _ => 0))
        case atStart => exact ⟨n, rfl, Nat.le_refl _, Lib.hid ⟨by rw [HN.out.1]; exact Ins.start t D, Mod.refl _ _⟩⟩
        case round =>
          obtain ⟨i, rfl, hi, HI⟩ := hrel
          have HIN := Lib.hid hi
          have HCR := Lib.hid (HI.out.2.cellAt HC2.out (fun e => e))
          have HBR := Lib.hid (HI.out.2.blk HQB.out (fun e => e))
          have HB0 : Hid (wr.rangeAt w.heap.size 0 (tmL t)) := Lib.hid (by have h := HBR.out.whole; rw [HA.out] at h; exact h)
          have HQR := Lib.hid (And.intro (HQ2.out.1.still HI.out.2) (HQ2.out.2.still HI.out.2))
          by_cases hi0 : i = 0
          · have HSP : Hid (insT t D = D.take i ++ t :: D.drop i) := Lib.hid (HI.out.1.stop HD.out.s (fun k x e _ => by omega))
            have g0 : decide ((0 : Int) < (i : Int)) = false := by simp; omega
            have g1 : decide (0 < i) = false := by simp; omega
            have j0 : (0 : Int) ≤ (i : Int) := by omega
            clear hi hi0
            go_upto_region 8 with fail
            refine wp_region_held_drew (S := fun X => Mod (fun _ => False) wr X) (by kernel_rfl) (Mod.refl _ _).drew (fun hS => ?_)
            refine' takeH (i := 0) (v := _) (some 41) rfl rfl (by kernel_rfl) (by kernel_rfl) (by kernel_rfl) (fun _ _ _ h => h) (Or.inl ⟨by rfl, fun X hX => ?_⟩) hS ?_
            rotate_left
            · go_simp; exact rfl
            (try go_frame)
            refine takeH (i := 1) (v := .bool false) (some 42) rfl rfl (by kernel_rfl) (by kernel_rfl) (by kernel_rfl) (fun _ _ _ h => h) (Or.inl ⟨by rfl, fun X hX => ?_⟩) hS ?_
            · go_simp
            (try go_frame)
            refine' takeH (i := 2) (v := _) (some 43) rfl rfl (by kernel_rfl) (by kernel_rfl) (by kernel_rfl) (fun _ _ _ h => h) (Or.inl ⟨by rfl, fun X hX => ?_⟩) hS ?_
            rotate_left
            · go_simp; exact rfl
            (try go_frame)
            refine takeH (i := 3) (v := undef) (some 44) rfl rfl (by kernel_rfl) (by kernel_rfl) (by kernel_rfl) (fun _ _ _ h => h) (Or.inr ⟨by rfl, rfl⟩) hS ?_
            (try go_frame)
            refine takeH (i := 4) (v := undef) (some 45) rfl rfl (by kernel_rfl) (by kernel_rfl) (by kernel_rfl) (fun _ _ _ h => h) (Or.inr ⟨by rfl, rfl⟩) hS ?_
            (try go_frame)
            refine takeH (i := 5) (v := undef) (some 46) rfl rfl (by kernel_rfl) (by kernel_rfl) (by kernel_rfl) (fun _ _ _ h => h) (Or.inr ⟨by rfl, rfl⟩) hS ?_
            (try go_frame)
            refine takeH (i := 6) (v := undef) (some 47) rfl rfl (by kernel_rfl) (by kernel_rfl) (by kernel_rfl) (fun _ _ _ h => h) (Or.inr ⟨by rfl, rfl⟩) hS ?_
            (try go_frame)
            refine takeH (i := 7) (v := undef) (some 48) rfl rfl (by kernel_rfl) (by kernel_rfl) (by kernel_rfl) (fun _ _ _ h => h) (Or.inr ⟨by rfl, rfl⟩) hS ?_
            (try go_frame)
            refine takeH (i := 8) (v := undef) (some 49) rfl rfl (by kernel_rfl) (by kernel_rfl) (by kernel_rfl) (fun _ _ _ h => h) (Or.inr ⟨by rfl, rfl⟩) hS ?_
            (try go_frame)
            refine takeH (i := 9) (v := undef) (some 50) rfl rfl (by kernel_rfl) (by kernel_rfl) (by kernel_rfl) (fun _ _ _ h => h) (Or.inr ⟨by rfl, rfl⟩) hS ?_
            (try go_frame)
            refine takeH (i := 10) (v := undef) (some 51) rfl rfl (by kernel_rfl) (by kernel_rfl) (by kernel_rfl) (fun _ _ _ h => h) (Or.inr ⟨by rfl, rfl⟩) hS ?_
            (try go_frame)
            refine takeH (i := 11) (v := undef) (some 52) rfl rfl (by kernel_rfl) (by kernel_rfl) (by kernel_rfl) (fun _ _ _ h => h) (Or.inr ⟨by rfl, rfl⟩) hS ?_
            (try go_frame)
            refine takeH (i := 12) (v := undef) (some 53) rfl rfl (by kernel_rfl) (by kernel_rfl) (by kernel_rfl) (fun _ _ _ h => h) (Or.inr ⟨by rfl, rfl⟩) hS ?_
            (try go_frame)
            refine' takeH (i := 13) (v := _) (some 54) rfl rfl (by kernel_rfl) (by kernel_rfl) (by kernel_rfl) (fun _ _ _ h => h) (Or.inl ⟨by rfl, fun X hX => ?_⟩) hS ?_
            rotate_left
            · go_simp; exact rfl
            (try go_frame)
            refine wpAnyH_done (by kernel_rfl) ?_ _
            have hSW := hS
            generalize wr.drew = Y at *
            go_upto_region 10 with fail
            have HQY : Hid (RQ B Y rb (.slice a2 D.length cap2) D ∧ RQ B Y rb (.slice a2 n cap2) D) := Lib.hid ⟨HQR.out.1.still hSW, HQR.out.2.still hSW⟩
            have HCY : Hid (Y.cell? ⟨rb, 0, none⟩ = some (.slice a2 n cap2)) := Lib.hid (hSW.cellAt HCR.out (fun e => e))
            have HBY : Hid (Y.rangeAt w.heap.size 0 (tmL t)) := Lib.hid (by have h := (hSW.blk HBR.out (fun e => e)).whole; rw [HA.out] at h; exact h)
            have HMY : Hid (Mod (fun _ => False) w2 Y) := Lib.hid (HI.out.2.trans hSW)
            obtain ⟨p1, s1, q1, e1⟩ : ∃ a1 n1 c1, Value.slice a1 n1 c1 = sliced a2 0 i cap2 3 := ⟨_, _, _, rfl⟩
            obtain ⟨p2, s2, q2, e2⟩ : ∃ a1 n1 c1, Value.slice a1 n1 c1 = sliced a2 i n cap2 3 := ⟨_, _, _, rfl⟩
            have HS1 : Hid (TmV Y (.slice p1 s1 q1) (D.take i)) := Lib.hid (by rw [e1]; exact TmV.take HQY.out.2.val HN.out.1 (by have := HIN.out; omega))
            have HS2 : Hid (TmV Y (.slice p2 s2 q2) (D.drop i)) := Lib.hid (by rw [e2]; exact TmV.drop HQY.out.2.val HN.out.1 (by have := HIN.out; omega))
            have HE1 := Lib.hid e1
            have HE2 := Lib.hid e2
            clear e1 e2 hS hSW
            refine wp_region_last (S := fun X => Mod (fun _ => False) Y X) 21 (by kernel_rfl) (Mod.refl _ _).drew (fun hS => ?_)
            generalize Y.drew = V2 at *
            refine' takeL (i := 0) (v := _) (some 57) rfl rfl (by kernel_rfl) (by kernel_rfl) (by kernel_rfl) (by kernel_rfl) (fun _ _ _ h => h) (Or.inl ⟨by rfl, fun X hX => ?_⟩) hS ?_
            rotate_left
            · go_simp; exact rfl
            (try go_frame)
            refine' takeL (i := 2) (v := _) (some 59) rfl rfl (by kernel_rfl) (by kernel_rfl) (by kernel_rfl) (by kernel_rfl) (fun _ _ _ h => h) (Or.inl ⟨by rfl, fun X hX => ?_⟩) hS ?_
            rotate_left
            · go_simp; exact rfl
            (try go_frame)
            refine' takeL (i := 3) (v := _) (some 60) rfl rfl (by kernel_rfl) (by kernel_rfl) (by kernel_rfl) (by kernel_rfl) (fun _ _ _ h => h) (Or.inl ⟨by rfl, fun X hX => ?_⟩) hS ?_
            rotate_left
            · go_simp; exact rfl
            (try go_frame)
            refine' takeL (i := 4) (v := _) (some 61) rfl rfl (by kernel_rfl) (by kernel_rfl) (by kernel_rfl) (by kernel_rfl) (fun _ _ _ h => h) (Or.inl ⟨by rfl, fun X hX => ?_⟩) hS ?_
            rotate_left
            · go_simp; exact rfl
            (try go_frame)
            refine' takeL (i := 5) (v := _) (some 62) rfl rfl (by kernel_rfl) (by kernel_rfl) (by kernel_rfl) (by kernel_rfl) (fun _ _ _ h => h) (Or.inl ⟨by rfl, fun X hX => ?_⟩) hS ?_
            rotate_left
            · have c := hX.cellAt HCY.out (fun e => e); go_simp; exact rfl
            (try go_frame)
            refine' takeL (i := 6) (v := _) (some 63) rfl rfl (by kernel_rfl) (by kernel_rfl) (by kernel_rfl) (by kernel_rfl) (fun _ _ _ h => h) (Or.inl ⟨by rfl, fun X hX => ?_⟩) hS ?_
            rotate_left
            · go_simp; exact rfl
            (try go_frame)
            refine takeL (i := 7) (v := .slice p1 s1 q1) (some 64) rfl rfl (by kernel_rfl) (by kernel_rfl) (by kernel_rfl) (by kernel_rfl) (fun _ _ _ h => h) (Or.inl ⟨by rfl, fun X hX => ?_⟩) hS ?_
            · exact exec_slice_h (x := .tmp 62) (l := .tmp 63) (k := i) rfl rfl rfl (by have := HIN.out; have := HCAP.out; omega) HE1.out
            (try go_frame)
            refine takeL (i := 9) (v := .agg (tmA t)) (some 66) rfl rfl (by kernel_rfl) (by kernel_rfl) (by kernel_rfl) (by kernel_rfl) (fun _ _ _ h => h) (Or.inl ⟨by rfl, fun X hX => ?_⟩) hS ?_
            · exact exec_tm (x := .tmp 3) (g := w.heap.size) (o := 0) (t := t) rfl rfl (fun j u hu => hX.cellAt (by have h := HBY.out j u hu; simpa using h) (fun e => e))
            (try go_frame)
            refine' takeL (i := 12) (v := _) (some 69) rfl rfl (by kernel_rfl) (by kernel_rfl) (by kernel_rfl) (by kernel_rfl) (fun _ _ _ h => h) (Or.inl ⟨by rfl, fun X hX => ?_⟩) hS ?_
            rotate_left
            · go_simp; exact rfl
            (try go_frame)
            refine' takeL (i := 13) (v := _) (some 70) rfl rfl (by kernel_rfl) (by kernel_rfl) (by kernel_rfl) (by kernel_rfl) (fun _ _ _ h => h) (Or.inl ⟨by rfl, fun X hX => ?_⟩) hS ?_
            rotate_left
            · go_simp; exact rfl
            (try go_frame)
            refine' takeL (i := 14) (v := _) (some 71) rfl rfl (by kernel_rfl) (by kernel_rfl) (by kernel_rfl) (by kernel_rfl) (fun _ _ _ h => h) (Or.inl ⟨by rfl, fun X hX => ?_⟩) hS ?_
            rotate_left
            · go_simp; exact rfl
            (try go_frame)
            refine' takeL (i := 15) (v := _) (some 72) rfl rfl (by kernel_rfl) (by kernel_rfl) (by kernel_rfl) (by kernel_rfl) (fun _ _ _ h => h) (Or.inl ⟨by rfl, fun X hX => ?_⟩) hS ?_
            rotate_left
            · have c := hX.cellAt HCY.out (fun e => e); go_simp; exact rfl
            (try go_frame)
            refine' takeL (i := 16) (v := _) (some 73) rfl rfl (by kernel_rfl) (by kernel_rfl) (by kernel_rfl) (by kernel_rfl) (fun _ _ _ h => h) (Or.inl ⟨by rfl, fun X hX => ?_⟩) hS ?_
            rotate_left
            · go_simp; exact rfl
            (try go_frame)
            refine takeL (i := 17) (v := .slice p2 s2 q2) (some 74) rfl rfl (by kernel_rfl) (by kernel_rfl) (by kernel_rfl) (by kernel_rfl) (fun _ _ _ h => h) (Or.inl ⟨by rfl, fun X hX => ?_⟩) hS ?_
            · exact exec_slice_l (x := .tmp 72) (l := .tmp 73) (k := i) rfl rfl rfl (by have := HIN.out; omega) HE2.out
            (try go_frame)
            refine wpAnyL.ready (rs := [1, 10]) (by kernel_rfl) (by simp) ?_
            refine (AllReadyL.cons (o := ⟨some 58, _, _, _, _, none⟩) rfl (by decide) (fun K hK => ?_) (AllReadyL.cons (o := ⟨some 67, _, _, _, _, none⟩) rfl (by decide) (fun K hK => ?_) AllReadyL.nil))
            · have hb3 : Y.heap.size ≤ V2.heap.size := hS.size
              have ho3 := own0 hb3
              have hlt3 : V2.heap.size < (V2.alloc (.cells #[] 27)).heap.size := (Blk.new V2 #[] 27).lt
              have hsz3 : V2.heap.size ≤ (V2.alloc (.cells #[] 27)).heap.size := by omega
              refine step_run rfl (exec_build0 rfl) ?_
              refine hK.out _ _ (hS.alloc _) (fun hS => ?_)
              clear hK K
              generalize V2.alloc (.cells #[] 27) = V3 at *
              generalize V2.heap.size = g3 at *
              (try go_frame)
              refine wpAnyL.ready (rs := [8, 10]) (by kernel_rfl) (by simp) ?_
              refine (AllReadyL.cons (o := ⟨some 65, _, _, _, _, none⟩) rfl (by decide) (fun K hK => ?_) (AllReadyL.cons (o := ⟨some 67, _, _, _, _, none⟩) rfl (by decide) (fun K hK => ?_) AllReadyL.nil))
              · have hWS : Y.heap.size ≤ V3.heap.size := hS.size
                obtain ⟨p4, s4, q4, V4, hr, ho4, hg, hat4⟩ := OwnT.appendL ho3 (HS1.out.kept hS) (by have := HN.out; have := HIN.out; simp only [List.length_take, List.length_nil]; omega) hWS 34
                have hM2 : Mod (fun k => Y.heap.size ≤ k) V3 V4 := (Mod.refl _ _).grown hg (fun k hk _ => (ho3.lt k hk).1)
                have hsz4 := hM2.size
                refine step_run rfl (exec_append (s := .tmp 58) (x := .tmp 64) rfl rfl rfl hr) ?_
                refine hK.out _ _ (hS.trans' hM2 (fun k hk e => by omega)) (fun hS => ?_)
                clear hK K hr hg
                (try go_frame)
                refine wpAnyL.ready (rs := [10]) (by kernel_rfl) (by simp) ?_
                refine (AllReadyL.cons (o := ⟨some 67, _, _, _, _, none⟩) rfl (by decide) (fun K hK => ?_) AllReadyL.nil)
                have hlt5 : V4.heap.size < (V4.alloc (.cells (tmA t) 27)).heap.size := (Blk.new V4 (tmA t) 27).lt
                have hz5 := hlt5
                have ht5 : TmV (V4.alloc (.cells (tmA t) 27)) (.slice (some ⟨V4.heap.size, 0, none⟩) 1 1) [t] := tm_one V4 t
                have ho5 := ho4.still ((Mod.refl _ _).alloc (.cells (tmA t) 27))
                have hne5 : ¬ (Value.ownBlock (.slice p4 s4 q4)) = some V4.heap.size := fun e => by have := (ho4.lt _ e).2; omega
                refine step_run rfl (exec_build_tm (x := .tmp 66) (t := t) rfl rfl) ?_
                refine hK.out _ _ (hS.alloc _) (fun hS => ?_)
                clear hK K
                generalize V4.alloc (.cells (tmA t) 27) = V5 at *
                generalize V4.heap.size = z5 at *
                (try go_frame)
                refine wpAnyL.ready (rs := [11]) (by kernel_rfl) (by simp) ?_
                refine (AllReadyL.cons (o := ⟨some 68, _, _, _, _, none⟩) rfl (by decide) (fun K hK => ?_) AllReadyL.nil)
                have hWS : Y.heap.size ≤ V5.heap.size := hS.size
                obtain ⟨p6, s6, q6, V6, hr, ho6, hg, hat6⟩ := OwnT.appendL ho5 (ht5) (by have := HN.out; have := HIN.out; simp only [List.nil_append, List.length_take, List.length_cons, List.length_nil]; omega) hWS 34
                have hM2 : Mod (fun k => Y.heap.size ≤ k) V5 V6 := (Mod.refl _ _).grown hg (fun k hk _ => (ho5.lt k hk).1)
                have hsz6 := hM2.size
                refine step_run rfl (exec_append (s := .tmp 65) (x := .tmp 67) rfl rfl rfl hr) ?_
                refine hK.out _ _ (hS.trans' hM2 (fun k hk e => by omega)) (fun hS => ?_)
                clear hK K hr hg
                (try go_frame)
                refine wpAnyL.ready (rs := [18]) (by kernel_rfl) (by simp) ?_
                refine (AllReadyL.cons (o := ⟨some 75, _, _, _, _, none⟩) rfl (by decide) (fun K hK => ?_) AllReadyL.nil)
                have hWS : Y.heap.size ≤ V6.heap.size := hS.size
                obtain ⟨p7, s7, q7, V7, hr, ho7, hg, hat7⟩ := OwnT.appendL ho6 (HS2.out.kept hS) (by have := HN.out; have := HIN.out; simp only [List.nil_append, List.length_append, List.length_take, List.length_drop, List.length_cons, List.length_nil]; omega) hWS 34
                have hM2 : Mod (fun k => Y.heap.size ≤ k) V6 V7 := (Mod.refl _ _).grown hg (fun k hk _ => (ho6.lt k hk).1)
                have hsz7 := hM2.size
                refine step_run rfl (exec_append (s := .tmp 68) (x := .tmp 74) rfl rfl rfl hr) ?_
                refine hK.out _ _ (hS.trans' hM2 (fun k hk e => by omega)) (fun hS => ?_)
                clear hK K hr hg
                (try go_frame)
                refine' takeL (i := 19) (v := _) (some 76) rfl rfl (by kernel_rfl) (by kernel_rfl) (by kernel_rfl) (by kernel_rfl) (fun _ _ _ h => h) (Or.inl ⟨by rfl, fun X hX => ?_⟩) hS ?_
                rotate_left
                · go_simp; exact rfl
                (try go_frame)
                refine' takeL (i := 20) (v := _) (some 77) rfl rfl (by kernel_rfl) (by kernel_rfl) (by kernel_rfl) (by kernel_rfl) (fun _ _ _ h => h) (Or.inl ⟨by rfl, fun X hX => ?_⟩) hS ?_
                rotate_left
                · go_simp; exact rfl
                (try go_frame)
                refine wpAnyL.ready (rs := [21]) (by kernel_rfl) (by simp) ?_
                refine AllReadyL.closing (o := ⟨none, _, _, _, _, none⟩) rfl (fun K hK => ?_)
                have e0 : V7.cell? ⟨rb, 0, none⟩ = some (.slice a2 n cap2) := hS.cellAt HCY.out (fun e => e)
                have e1 : V7.frozen? ⟨rb, 0, none⟩ = false := (hS.blk HQY.out.2.blk (fun e => e)).free 0
                go_simp
                refine hK.out _ _ ?_
                clear hK K e0 e1
                refine wpAnyL.done (by kernel_rfl) ?_ _
                have HR := Lib.hid (HQY.out.1.put hS ho7)
                clear hS
                generalize V7.setCell ⟨rb, 0, none⟩ (.slice p7 s7 q7) = V99 at *
                go_wp2_with fail
                go_ret
                rw [HS.out.1, HS.out.2, HSP.out]
                refine ⟨rfl, ?_⟩
                obtain ⟨rv9, h1, h2, h3⟩ := HR.out
                have e9 : ([] ++ D.take i ++ [t] ++ D.drop i) = D.take i ++ t :: D.drop i := by simp
                rw [e9] at h1 h2
                refine ⟨rv9, h1, fun k hk => ?_, (HF2.out.2.trans' HMY.out (fun _ _ h => h.elim)).trans h3⟩
                rcases h2 k hk with e | e
                · rcases HF2.out.1 k e with e | e
                  · exact .inl e
                  · exact .inr ⟨e.1, Nat.lt_of_lt_of_le e.2 (Nat.le_trans HMY.out.size h3.size)⟩
                · exact .inr ⟨Nat.le_trans (Nat.le_trans HF2.out.2.size HMY.out.size) e.1, e.2⟩
              · have hlt4 : V3.heap.size < (V3.alloc (.cells (tmA t) 27)).heap.size := (Blk.new V3 (tmA t) 27).lt
                have hz4 := hlt4
                have ht4 : TmV (V3.alloc (.cells (tmA t) 27)) (.slice (some ⟨V3.heap.size, 0, none⟩) 1 1) [t] := tm_one V3 t
                have ho4 := ho3.still ((Mod.refl _ _).alloc (.cells (tmA t) 27))
                have hne4 : ¬ (Value.ownBlock (.slice (some ⟨g3, 0, none⟩) 0 0)) = some V3.heap.size := fun e => by have := (ho3.lt _ e).2; omega
                refine step_run rfl (exec_build_tm (x := .tmp 66) (t := t) rfl rfl) ?_
                refine hK.out _ _ (hS.alloc _) (fun hS => ?_)
                clear hK K
                generalize V3.alloc (.cells (tmA t) 27) = V4 at *
                generalize V3.heap.size = z4 at *
                (try go_frame)
                refine wpAnyL.ready (rs := [8]) (by kernel_rfl) (by simp) ?_
                refine (AllReadyL.cons (o := ⟨some 65, _, _, _, _, none⟩) rfl (by decide) (fun K hK => ?_) AllReadyL.nil)
                have hWS : Y.heap.size ≤ V4.heap.size := hS.size
                obtain ⟨p5, s5, q5, V5, hr, ho5, hg, hat5⟩ := OwnT.appendL ho4 (HS1.out.kept hS) (by have := HN.out; have := HIN.out; simp only [List.length_take, List.length_nil]; omega) hWS 34
                have hM2 : Mod (fun k => Y.heap.size ≤ k) V4 V5 := (Mod.refl _ _).grown hg (fun k hk _ => (ho4.lt k hk).1)
                have hsz5 := hM2.size
                have ht5 : TmV V5 (.slice (some ⟨z4, 0, none⟩) 1 1) [t] := ((Mod.refl (fun k => Value.ownBlock (.slice (some ⟨g3, 0, none⟩) 0 0) = some k) _).grown hg (fun k hk _ => hk)).sl ht4 (fun _ g hg' e => hne4 (by simp [blockOf] at hg'; subst hg'; exact e))
                have hz5 : z4 < V5.heap.size := Nat.lt_of_lt_of_le hz4 hsz5
                have hne5 : ¬ (Value.slice p5 s5 q5).ownBlock = some z4 := fun e => by
                  rcases hat5 with e' | e'
                  · exact hne4 (e'.symm.trans e)
                  · rw [e'] at e
                    simp at e
                    have := hz4
                    omega
                refine step_run rfl (exec_append (s := .tmp 58) (x := .tmp 64) rfl rfl rfl hr) ?_
                refine hK.out _ _ (hS.trans' hM2 (fun k hk e => by omega)) (fun hS => ?_)
                clear hK K hr hg
                (try go_frame)
                refine wpAnyL.ready (rs := [11]) (by kernel_rfl) (by simp) ?_
                refine (AllReadyL.cons (o := ⟨some 68, _, _, _, _, none⟩) rfl (by decide) (fun K hK => ?_) AllReadyL.nil)
                have hWS : Y.heap.size ≤ V5.heap.size := hS.size
                obtain ⟨p6, s6, q6, V6, hr, ho6, hg, hat6⟩ := OwnT.appendL ho5 (ht5) (by have := HN.out; have := HIN.out; simp only [List.nil_append, List.length_take, List.length_cons, List.length_nil]; omega) hWS 34
                have hM2 : Mod (fun k => Y.heap.size ≤ k) V5 V6 := (Mod.refl _ _).grown hg (fun k hk _ => (ho5.lt k hk).1)
                have hsz6 := hM2.size
                refine step_run rfl (exec_append (s := .tmp 65) (x := .tmp 67) rfl rfl rfl hr) ?_
                refine hK.out _ _ (hS.trans' hM2 (fun k hk e => by omega)) (fun hS => ?_)
                clear hK K hr hg
                (try go_frame)
                refine wpAnyL.ready (rs := [18]) (by kernel_rfl) (by simp) ?_
                refine (AllReadyL.cons (o := ⟨some 75, _, _, _, _, none⟩) rfl (by decide) (fun K hK => ?_) AllReadyL.nil)
                have hWS : Y.heap.size ≤ V6.heap.size := hS.size
                obtain ⟨p7, s7, q7, V7, hr, ho7, hg, hat7⟩ := OwnT.appendL ho6 (HS2.out.kept hS) (by have := HN.out; have := HIN.out; simp only [List.nil_append, List.length_append, List.length_take, List.length_drop, List.length_cons, List.length_nil]; omega) hWS 34
                have hM2 : Mod (fun k => Y.heap.size ≤ k) V6 V7 := (Mod.refl _ _).grown hg (fun k hk _ => (ho6.lt k hk).1)
                have hsz7 := hM2.size
                refine step_run rfl (exec_append (s := .tmp 68) (x := .tmp 74) rfl rfl rfl hr) ?_
                refine hK.out _ _ (hS.trans' hM2 (fun k hk e => by omega)) (fun hS => ?_)
                clear hK K hr hg
                (try go_frame)
                refine' takeL (i := 19) (v := _) (some 76) rfl rfl (by kernel_rfl) (by kernel_rfl) (by kernel_rfl) (by kernel_rfl) (fun _ _ _ h => h) (Or.inl ⟨by rfl, fun X hX => ?_⟩) hS ?_
                rotate_left
                · go_simp; exact rfl
                (try go_frame)
                refine' takeL (i := 20) (v := _) (some 77) rfl rfl (by kernel_rfl) (by kernel_rfl) (by kernel_rfl) (by kernel_rfl) (fun _ _ _ h => h) (Or.inl ⟨by rfl, fun X hX => ?_⟩) hS ?_
                rotate_left
                · go_simp; exact rfl
                (try go_frame)
                refine wpAnyL.ready (rs := [21]) (by kernel_rfl) (by simp) ?_
                refine AllReadyL.closing (o := ⟨none, _, _, _, _, none⟩) rfl (fun K hK => ?_)
                have e0 : V7.cell? ⟨rb, 0, none⟩ = some (.slice a2 n cap2) := hS.cellAt HCY.out (fun e => e)
                have e1 : V7.frozen? ⟨rb, 0, none⟩ = false := (hS.blk HQY.out.2.blk (fun e => e)).free 0
                go_simp
                refine hK.out _ _ ?_
                clear hK K e0 e1
                refine wpAnyL.done (by kernel_rfl) ?_ _
                have HR := Lib.hid (HQY.out.1.put hS ho7)
                clear hS
                generalize V7.setCell ⟨rb, 0, none⟩ (.slice p7 s7 q7) = V99 at *
                go_wp2_with fail
                go_ret
                rw [HS.out.1, HS.out.2, HSP.out]
                refine ⟨rfl, ?_⟩
                obtain ⟨rv9, h1, h2, h3⟩ := HR.out
                have e9 : ([] ++ D.take i ++ [t] ++ D.drop i) = D.take i ++ t :: D.drop i := by simp
                rw [e9] at h1 h2
                refine ⟨rv9, h1, fun k hk => ?_, (HF2.out.2.trans' HMY.out (fun _ _ h => h.elim)).trans h3⟩
                rcases h2 k hk with e | e
                · rcases HF2.out.1 k e with e | e
                  · exact .inl e
                  · exact .inr ⟨e.1, Nat.lt_of_lt_of_le e.2 (Nat.le_trans HMY.out.size h3.size)⟩
                · exact .inr ⟨Nat.le_trans (Nat.le_trans HF2.out.2.size HMY.out.size) e.1, e.2⟩
            · have hlt3 : V2.heap.size < (V2.alloc (.cells (tmA t) 27)).heap.size := (Blk.new V2 (tmA t) 27).lt
              have hz3 := hlt3
              have ht3 : TmV (V2.alloc (.cells (tmA t) 27)) (.slice (some ⟨V2.heap.size, 0, none⟩) 1 1) [t] := tm_one V2 t
              refine step_run rfl (exec_build_tm (x := .tmp 66) (t := t) rfl rfl) ?_
              refine hK.out _ _ (hS.alloc _) (fun hS => ?_)
              clear hK K
              generalize V2.alloc (.cells (tmA t) 27) = V3 at *
              generalize V2.heap.size = z3 at *
              (try go_frame)
              refine wpAnyL.ready (rs := [1]) (by kernel_rfl) (by simp) ?_
              refine (AllReadyL.cons (o := ⟨some 58, _, _, _, _, none⟩) rfl (by decide) (fun K hK => ?_) AllReadyL.nil)
              have hb4 : Y.heap.size ≤ V3.heap.size := hS.size
              have ho4 := own0 hb4
              have hlt4 : V3.heap.size < (V3.alloc (.cells #[] 27)).heap.size := (Blk.new V3 #[] 27).lt
              have hsz4 : V3.heap.size ≤ (V3.alloc (.cells #[] 27)).heap.size := by omega
              have ht4 := ht3.kept ((Mod.refl _ _).alloc (.cells #[] 27))
              have hz4 : z3 < (V3.alloc (.cells #[] 27)).heap.size := Nat.lt_of_lt_of_le hz3 hsz4
              have hne4 : ¬ (Value.slice (some ⟨V3.heap.size, 0, none⟩) 0 0).ownBlock = some z3 := fun e => by simp [Value.ownBlock] at e; have := hz3; omega
              refine step_run rfl (exec_build0 rfl) ?_
              refine hK.out _ _ (hS.alloc _) (fun hS => ?_)
              clear hK K
              generalize V3.alloc (.cells #[] 27) = V4 at *
              generalize V3.heap.size = g4 at *
              (try go_frame)
              refine wpAnyL.ready (rs := [8]) (by kernel_rfl) (by simp) ?_
              refine (AllReadyL.cons (o := ⟨some 65, _, _, _, _, none⟩) rfl (by decide) (fun K hK => ?_) AllReadyL.nil)
              have hWS : Y.heap.size ≤ V4.heap.size := hS.size
              obtain ⟨p5, s5, q5, V5, hr, ho5, hg, hat5⟩ := OwnT.appendL ho4 (HS1.out.kept hS) (by have := HN.out; have := HIN.out; simp only [List.length_take, List.length_nil]; omega) hWS 34
              have hM2 : Mod (fun k => Y.heap.size ≤ k) V4 V5 := (Mod.refl _ _).grown hg (fun k hk _ => (ho4.lt k hk).1)
              have hsz5 := hM2.size
              have ht5 : TmV V5 (.slice (some ⟨z3, 0, none⟩) 1 1) [t] := ((Mod.refl (fun k => Value.ownBlock (.slice (some ⟨g4, 0, none⟩) 0 0) = some k) _).grown hg (fun k hk _ => hk)).sl ht4 (fun _ g hg' e => hne4 (by simp [blockOf] at hg'; subst hg'; exact e))
              have hz5 : z3 < V5.heap.size := Nat.lt_of_lt_of_le hz4 hsz5
              have hne5 : ¬ (Value.slice p5 s5 q5).ownBlock = some z3 := fun e => by
                rcases hat5 with e' | e'
                · exact hne4 (e'.symm.trans e)
                · rw [e'] at e
                  simp at e
                  have := hz4
                  omega
              refine step_run rfl (exec_append (s := .tmp 58) (x := .tmp 64) rfl rfl rfl hr) ?_
              refine hK.out _ _ (hS.trans' hM2 (fun k hk e => by omega)) (fun hS => ?_)
              clear hK K hr hg
              (try go_frame)
              refine wpAnyL.ready (rs := [11]) (by kernel_rfl) (by simp) ?_
              refine (AllReadyL.cons (o := ⟨some 68, _, _, _, _, none⟩) rfl (by decide) (fun K hK => ?_) AllReadyL.nil)
              have hWS : Y.heap.size ≤ V5.heap.size := hS.size
              obtain ⟨p6, s6, q6, V6, hr, ho6, hg, hat6⟩ := OwnT.appendL ho5 (ht5) (by have := HN.out; have := HIN.out; simp only [List.nil_append, List.length_take, List.length_cons, List.length_nil]; omega) hWS 34
              have hM2 : Mod (fun k => Y.heap.size ≤ k) V5 V6 := (Mod.refl _ _).grown hg (fun k hk _ => (ho5.lt k hk).1)
              have hsz6 := hM2.size
              refine step_run rfl (exec_append (s := .tmp 65) (x := .tmp 67) rfl rfl rfl hr) ?_
              refine hK.out _ _ (hS.trans' hM2 (fun k hk e => by omega)) (fun hS => ?_)
              clear hK K hr hg
              (try go_frame)
              refine wpAnyL.ready (rs := [18]) (by kernel_rfl) (by simp) ?_
              refine (AllReadyL.cons (o := ⟨some 75, _, _, _, _, none⟩) rfl (by decide) (fun K hK => ?_) AllReadyL.nil)
              have hWS : Y.heap.size ≤ V6.heap.size := hS.size
              obtain ⟨p7, s7, q7, V7, hr, ho7, hg, hat7⟩ := OwnT.appendL ho6 (HS2.out.kept hS) (by have := HN.out; have := HIN.out; simp only [List.nil_append, List.length_append, List.length_take, List.length_drop, List.length_cons, List.length_nil]; omega) hWS 34
              have hM2 : Mod (fun k => Y.heap.size ≤ k) V6 V7 := (Mod.refl _ _).grown hg (fun k hk _ => (ho6.lt k hk).1)
              have hsz7 := hM2.size
              refine step_run rfl (exec_append (s := .tmp 68) (x := .tmp 74) rfl rfl rfl hr) ?_
              refine hK.out _ _ (hS.trans' hM2 (fun k hk e => by omega)) (fun hS => ?_)
              clear hK K hr hg
              (try go_frame)
              refine' takeL (i := 19) (v := _) (some 76) rfl rfl (by kernel_rfl) (by kernel_rfl) (by kernel_rfl) (by kernel_rfl) (fun _ _ _ h => h) (Or.inl ⟨by rfl, fun X hX => ?_⟩) hS ?_
              rotate_left
              · go_simp; exact rfl
              (try go_frame)
              refine' takeL (i := 20) (v := _) (some 77) rfl rfl (by kernel_rfl) (by kernel_rfl) (by kernel_rfl) (by kernel_rfl) (fun _ _ _ h => h) (Or.inl ⟨by rfl, fun X hX => ?_⟩) hS ?_
              rotate_left
              · go_simp; exact rfl
              (try go_frame)
              refine wpAnyL.ready (rs := [21]) (by kernel_rfl) (by simp) ?_
              refine AllReadyL.closing (o := ⟨none, _, _, _, _, none⟩) rfl (fun K hK => ?_)
              have e0 : V7.cell? ⟨rb, 0, none⟩ = some (.slice a2 n cap2) := hS.cellAt HCY.out (fun e => e)
              have e1 : V7.frozen? ⟨rb, 0, none⟩ = false := (hS.blk HQY.out.2.blk (fun e => e)).free 0
              go_simp
              refine hK.out _ _ ?_
              clear hK K e0 e1
              refine wpAnyL.done (by kernel_rfl) ?_ _
              have HR := Lib.hid (HQY.out.1.put hS ho7)
              clear hS
              generalize V7.setCell ⟨rb, 0, none⟩ (.slice p7 s7 q7) = V99 at *
              go_wp2_with fail
              go_ret
              rw [HS.out.1, HS.out.2, HSP.out]
              refine ⟨rfl, ?_⟩
              obtain ⟨rv9, h1, h2, h3⟩ := HR.out
              have e9 : ([] ++ D.take i ++ [t] ++ D.drop i) = D.take i ++ t :: D.drop i := by simp
              rw [e9] at h1 h2
              refine ⟨rv9, h1, fun k hk => ?_, (HF2.out.2.trans' HMY.out (fun _ _ h => h.elim)).trans h3⟩
              rcases h2 k hk with e | e
              · rcases HF2.out.1 k e with e | e
                · exact .inl e
                · exact .inr ⟨e.1, Nat.lt_of_lt_of_le e.2 (Nat.le_trans HMY.out.size h3.size)⟩
              · exact .inr ⟨Nat.le_trans (Nat.le_trans HF2.out.2.size HMY.out.size) e.1, e.2⟩
          · obtain ⟨k, hk⟩ : ∃ k, i = k + 1 := ⟨i - 1, by omega⟩
            obtain ⟨x, hx⟩ : ∃ x, D[k]? = some x := ⟨_, List.getElem?_eq_getElem (by have := HN.out.1; omega)⟩
            obtain ⟨bb, off, cap3, hv3, hr3⟩ := HQR.out.2.val.at hx
            simp only [Value.slice.injEq] at hv3
            obtain ⟨rfl, -, rfl⟩ := hv3
            have HR3 := Lib.hid hr3
            have HX := Lib.hid (And.intro hk hx)
            have g0 : decide ((0 : Int) < (i : Int)) = true := by simp; omega
            have g1 : decide (0 < i) = true := by simp; omega
            have HW : Hid (IntKind.i64.wrap ((i : Int) - 1) = (k : Int)) := Lib.hid (by
              have e : (i : Int) - 1 = (k : Int) := by omega
              rw [e]
              exact IntWalk.i64_in _ (by omega))
            have HW64 : Hid (wrap64 ((i : Int) - 1) = (k : Int)) := Lib.hid (by unfold wrap64; omega)
            have k0 : (0 : Int) ≤ (k : Int) := by omega
            have k1 : (k : Int) < (n : Int) := by omega
            have j0 : (0 : Int) ≤ (i : Int) := by omega
            clear hi hi0 hk hx hr3
            go_upto_region 8 with fail
            refine wp_region_held_drew (S := fun X => Mod (fun _ => False) wr X) (by kernel_rfl) (Mod.refl _ _).drew (fun hS => ?_)
            refine' takeH (i := 0) (v := _) (some 41) rfl rfl (by kernel_rfl) (by kernel_rfl) (by kernel_rfl) (fun _ _ _ h => h) (Or.inl ⟨by rfl, fun X hX => ?_⟩) hS ?_
            rotate_left
            · go_simp; exact rfl
            (try go_frame)
            refine takeH (i := 1) (v := .bool true) (some 42) rfl rfl (by kernel_rfl) (by kernel_rfl) (by kernel_rfl) (fun _ _ _ h => h) (Or.inl ⟨by rfl, fun X hX => ?_⟩) hS ?_
            · go_simp
            (try go_frame)
            refine' takeH (i := 2) (v := _) (some 43) rfl rfl (by kernel_rfl) (by kernel_rfl) (by kernel_rfl) (fun _ _ _ h => h) (Or.inl ⟨by rfl, fun X hX => ?_⟩) hS ?_
            rotate_left
            · go_simp; exact rfl
            (try go_frame)
            refine takeH (i := 3) (v := .agg (tmA t)) (some 44) rfl rfl (by kernel_rfl) (by kernel_rfl) (by kernel_rfl) (fun _ _ _ h => h) (Or.inl ⟨by rfl, fun X hX => ?_⟩) hS ?_
            · exact exec_tm (x := .tmp 3) (g := w.heap.size) (o := 0) (t := t) rfl rfl (fun j u hu => hX.cellAt (HB0.out j u hu) (fun e => e))
            (try go_frame)
            refine' takeH (i := 4) (v := _) (some 45) rfl rfl (by kernel_rfl) (by kernel_rfl) (by kernel_rfl) (fun _ _ _ h => h) (Or.inl ⟨by rfl, fun X hX => ?_⟩) hS ?_
            rotate_left
            · go_simp; exact rfl
            (try go_frame)
            refine' takeH (i := 5) (v := _) (some 46) rfl rfl (by kernel_rfl) (by kernel_rfl) (by kernel_rfl) (fun _ _ _ h => h) (Or.inl ⟨by rfl, fun X hX => ?_⟩) hS ?_
            rotate_left
            · go_simp; exact rfl
            (try go_frame)
            refine' takeH (i := 6) (v := _) (some 47) rfl rfl (by kernel_rfl) (by kernel_rfl) (by kernel_rfl) (fun _ _ _ h => h) (Or.inl ⟨by rfl, fun X hX => ?_⟩) hS ?_
            rotate_left
            · go_simp; exact rfl
            (try go_frame)
            refine' takeH (i := 7) (v := _) (some 48) rfl rfl (by kernel_rfl) (by kernel_rfl) (by kernel_rfl) (fun _ _ _ h => h) (Or.inl ⟨by rfl, fun X hX => ?_⟩) hS ?_
            rotate_left
            · have c := hX.cellAt HCR.out (fun e => e); go_simp; exact rfl
            (try go_frame)
            refine' takeH (i := 8) (v := _) (some 49) rfl rfl (by kernel_rfl) (by kernel_rfl) (by kernel_rfl) (fun _ _ _ h => h) (Or.inl ⟨by rfl, fun X hX => ?_⟩) hS ?_
            rotate_left
            · go_simp; exact rfl
            (try go_frame)
            refine' takeH (i := 9) (v := _) (some 50) rfl rfl (by kernel_rfl) (by kernel_rfl) (by kernel_rfl) (fun _ _ _ h => h) (Or.inl ⟨by rfl, fun X hX => ?_⟩) hS ?_
            rotate_left
            · go_simp; rw [HW.out]
            (try go_frame)
            refine' takeH (i := 10) (v := _) (some 51) rfl rfl (by kernel_rfl) (by kernel_rfl) (by kernel_rfl) (fun _ _ _ h => h) (Or.inl ⟨by rfl, fun X hX => ?_⟩) hS ?_
            rotate_left
            · go_simp; exact rfl
            (try go_frame)
            refine takeH (i := 11) (v := .agg (tmA x)) (some 52) rfl rfl (by kernel_rfl) (by kernel_rfl) (by kernel_rfl) (fun _ _ _ h => h) (Or.inl ⟨by rfl, fun X hX => ?_⟩) hS ?_
            · exact exec_tm (x := .tmp 51) (g := bb) (o := off + k * 3) (t := x) rfl rfl (fun j u hu => hX.cellAt (HR3.out j u hu) (fun e => e))
            (try go_frame)
            refine wpAnyH_ready (rs := [12]) (by kernel_rfl) (by simp) ?_
            refine (AllReadyH.cons (o := ⟨some 53, _, _, _, _, some (2, true)⟩) rfl (fun K hK => ?_) AllReadyH.nil)
            go_simp
            refine (rahead_any t x _).mono ?_
            rintro e Y ⟨rfl, hMa⟩
            refine hK.out _ _ (hS.trans hMa) (fun hS => ?_)
            clear hK K hMa
            (try go_frame)
            refine' takeH (i := 13) (v := _) (some 54) rfl rfl (by kernel_rfl) (by kernel_rfl) (by kernel_rfl) (fun _ _ _ h => h) (Or.inl ⟨by rfl, fun X hX => ?_⟩) hS ?_
            rotate_left
            · go_simp; exact rfl
            (try go_frame)
            refine wpAnyH_done (by kernel_rfl) ?_ _
            by_cases hah : ahd t x = true
            · rw [hah]
              have HNX := Lib.hid (HI.out.1.next HX.out.1 HX.out.2 hah)
              have HMY := Lib.hid (HI.out.2.trans hS)
              clear hS hah
              go_wp2_with fail
              rw [HW64.out]
              go_roundw
              case rel => exact ⟨k, rfl, by have := HIN.out; have := HX.out.1; omega, Lib.hid ⟨HNX.out, HMY.out⟩⟩
              case measure => have := HX.out.1; simp; omega
            · have hah' : ahd t x = false := by simpa using hah
              rw [hah']
              have HSP : Hid (insT t D = D.take i ++ t :: D.drop i) := Lib.hid (HI.out.1.stop HD.out.s (fun k' x' e hx' => by
                have hkk : k' = k := by have := HX.out.1; omega
                subst hkk
                rw [HX.out.2] at hx'
                cases hx'
                exact hah'))
              clear hah hah'
              have hSW := hS
              go_upto_region 10 with fail
              have HQY : Hid (RQ B Y rb (.slice (some ⟨bb, off, none⟩) D.length cap2) D ∧ RQ B Y rb (.slice (some ⟨bb, off, none⟩) n cap2) D) := Lib.hid ⟨HQR.out.1.still hSW, HQR.out.2.still hSW⟩
              have HCY : Hid (Y.cell? ⟨rb, 0, none⟩ = some (.slice (some ⟨bb, off, none⟩) n cap2)) := Lib.hid (hSW.cellAt HCR.out (fun e => e))
              have HBY : Hid (Y.rangeAt w.heap.size 0 (tmL t)) := Lib.hid (by have h := (hSW.blk HBR.out (fun e => e)).whole; rw [HA.out] at h; exact h)
              have HMY : Hid (Mod (fun _ => False) w2 Y) := Lib.hid (HI.out.2.trans hSW)
              obtain ⟨p1, s1, q1, e1⟩ : ∃ a1 n1 c1, Value.slice a1 n1 c1 = sliced (some ⟨bb, off, none⟩) 0 i cap2 3 := ⟨_, _, _, rfl⟩
              obtain ⟨p2, s2, q2, e2⟩ : ∃ a1 n1 c1, Value.slice a1 n1 c1 = sliced (some ⟨bb, off, none⟩) i n cap2 3 := ⟨_, _, _, rfl⟩
              have HS1 : Hid (TmV Y (.slice p1 s1 q1) (D.take i)) := Lib.hid (by rw [e1]; exact TmV.take HQY.out.2.val HN.out.1 (by have := HIN.out; omega))
              have HS2 : Hid (TmV Y (.slice p2 s2 q2) (D.drop i)) := Lib.hid (by rw [e2]; exact TmV.drop HQY.out.2.val HN.out.1 (by have := HIN.out; omega))
              have HE1 := Lib.hid e1
              have HE2 := Lib.hid e2
              clear e1 e2 hS hSW
              refine wp_region_last (S := fun X => Mod (fun _ => False) Y X) 21 (by kernel_rfl) (Mod.refl _ _).drew (fun hS => ?_)
              generalize Y.drew = V2 at *
              refine' takeL (i := 0) (v := _) (some 57) rfl rfl (by kernel_rfl) (by kernel_rfl) (by kernel_rfl) (by kernel_rfl) (fun _ _ _ h => h) (Or.inl ⟨by rfl, fun X hX => ?_⟩) hS ?_
              rotate_left
              · go_simp; exact rfl
              (try go_frame)
              refine' takeL (i := 2) (v := _) (some 59) rfl rfl (by kernel_rfl) (by kernel_rfl) (by kernel_rfl) (by kernel_rfl) (fun _ _ _ h => h) (Or.inl ⟨by rfl, fun X hX => ?_⟩) hS ?_
              rotate_left
              · go_simp; exact rfl
              (try go_frame)
              refine' takeL (i := 3) (v := _) (some 60) rfl rfl (by kernel_rfl) (by kernel_rfl) (by kernel_rfl) (by kernel_rfl) (fun _ _ _ h => h) (Or.inl ⟨by rfl, fun X hX => ?_⟩) hS ?_
              rotate_left
              · go_simp; exact rfl
              (try go_frame)
              refine' takeL (i := 4) (v := _) (some 61) rfl rfl (by kernel_rfl) (by kernel_rfl) (by kernel_rfl) (by kernel_rfl) (fun _ _ _ h => h) (Or.inl ⟨by rfl, fun X hX => ?_⟩) hS ?_
              rotate_left
              · go_simp; exact rfl
              (try go_frame)
              refine' takeL (i := 5) (v := _) (some 62) rfl rfl (by kernel_rfl) (by kernel_rfl) (by kernel_rfl) (by kernel_rfl) (fun _ _ _ h => h) (Or.inl ⟨by rfl, fun X hX => ?_⟩) hS ?_
              rotate_left
              · have c := hX.cellAt HCY.out (fun e => e); go_simp; exact rfl
              (try go_frame)
              refine' takeL (i := 6) (v := _) (some 63) rfl rfl (by kernel_rfl) (by kernel_rfl) (by kernel_rfl) (by kernel_rfl) (fun _ _ _ h => h) (Or.inl ⟨by rfl, fun X hX => ?_⟩) hS ?_
              rotate_left
              · go_simp; exact rfl
              (try go_frame)
              refine takeL (i := 7) (v := .slice p1 s1 q1) (some 64) rfl rfl (by kernel_rfl) (by kernel_rfl) (by kernel_rfl) (by kernel_rfl) (fun _ _ _ h => h) (Or.inl ⟨by rfl, fun X hX => ?_⟩) hS ?_
              · exact exec_slice_h (x := .tmp 62) (l := .tmp 63) (k := i) rfl rfl rfl (by have := HIN.out; have := HCAP.out; omega) HE1.out
              (try go_frame)
              refine takeL (i := 9) (v := .agg (tmA t)) (some 66) rfl rfl (by kernel_rfl) (by kernel_rfl) (by kernel_rfl) (by kernel_rfl) (fun _ _ _ h => h) (Or.inl ⟨by rfl, fun X hX => ?_⟩) hS ?_
              · exact exec_tm (x := .tmp 3) (g := w.heap.size) (o := 0) (t := t) rfl rfl (fun j u hu => hX.cellAt (by have h := HBY.out j u hu; simpa using h) (fun e => e))
              (try go_frame)
              refine' takeL (i := 12) (v := _) (some 69) rfl rfl (by kernel_rfl) (by kernel_rfl) (by kernel_rfl) (by kernel_rfl) (fun _ _ _ h => h) (Or.inl ⟨by rfl, fun X hX => ?_⟩) hS ?_
              rotate_left
              · go_simp; exact rfl
              (try go_frame)
              refine' takeL (i := 13) (v := _) (some 70) rfl rfl (by kernel_rfl) (by kernel_rfl) (by kernel_rfl) (by kernel_rfl) (fun _ _ _ h => h) (Or.inl ⟨by rfl, fun X hX => ?_⟩) hS ?_
              rotate_left
              · go_simp; exact rfl
              (try go_frame)
              refine' takeL (i := 14) (v := _) (some 71) rfl rfl (by kernel_rfl) (by kernel_rfl) (by kernel_rfl) (by kernel_rfl) (fun _ _ _ h => h) (Or.inl ⟨by rfl, fun X hX => ?_⟩) hS ?_
              rotate_left
              · go_simp; exact rfl
              (try go_frame)
              refine' takeL (i := 15) (v := _) (some 72) rfl rfl (by kernel_rfl) (by kernel_rfl) (by kernel_rfl) (by kernel_rfl) (fun _ _ _ h => h) (Or.inl ⟨by rfl, fun X hX => ?_⟩) hS ?_
              rotate_left
              · have c := hX.cellAt HCY.out (fun e => e); go_simp; exact rfl
              (try go_frame)
              refine' takeL (i := 16) (v := _) (some 73) rfl rfl (by kernel_rfl) (by kernel_rfl) (by kernel_rfl) (by kernel_rfl) (fun _ _ _ h => h) (Or.inl ⟨by rfl, fun X hX => ?_⟩) hS ?_
              rotate_left
              · go_simp; exact rfl
              (try go_frame)
              refine takeL (i := 17) (v := .slice p2 s2 q2) (some 74) rfl rfl (by kernel_rfl) (by kernel_rfl) (by kernel_rfl) (by kernel_rfl) (fun _ _ _ h => h) (Or.inl ⟨by rfl, fun X hX => ?_⟩) hS ?_
              · exact exec_slice_l (x := .tmp 72) (l := .tmp 73) (k := i) rfl rfl rfl (by have := HIN.out; omega) HE2.out
              (try go_frame)
              refine wpAnyL.ready (rs := [1, 10]) (by kernel_rfl) (by simp) ?_
              refine (AllReadyL.cons (o := ⟨some 58, _, _, _, _, none⟩) rfl (by decide) (fun K hK => ?_) (AllReadyL.cons (o := ⟨some 67, _, _, _, _, none⟩) rfl (by decide) (fun K hK => ?_) AllReadyL.nil))
              · have hb3 : Y.heap.size ≤ V2.heap.size := hS.size
                have ho3 := own0 hb3
                have hlt3 : V2.heap.size < (V2.alloc (.cells #[] 27)).heap.size := (Blk.new V2 #[] 27).lt
                have hsz3 : V2.heap.size ≤ (V2.alloc (.cells #[] 27)).heap.size := by omega
                refine step_run rfl (exec_build0 rfl) ?_
                refine hK.out _ _ (hS.alloc _) (fun hS => ?_)
                clear hK K
                generalize V2.alloc (.cells #[] 27) = V3 at *
                generalize V2.heap.size = g3 at *
                (try go_frame)
                refine wpAnyL.ready (rs := [8, 10]) (by kernel_rfl) (by simp) ?_
                refine (AllReadyL.cons (o := ⟨some 65, _, _, _, _, none⟩) rfl (by decide) (fun K hK => ?_) (AllReadyL.cons (o := ⟨some 67, _, _, _, _, none⟩) rfl (by decide) (fun K hK => ?_) AllReadyL.nil))
                · have hWS : Y.heap.size ≤ V3.heap.size := hS.size
                  obtain ⟨p4, s4, q4, V4, hr, ho4, hg, hat4⟩ := OwnT.appendL ho3 (HS1.out.kept hS) (by have := HN.out; have := HIN.out; simp only [List.length_take, List.length_nil]; omega) hWS 34
                  have hM2 : Mod (fun k => Y.heap.size ≤ k) V3 V4 := (Mod.refl _ _).grown hg (fun k hk _ => (ho3.lt k hk).1)
                  have hsz4 := hM2.size
                  refine step_run rfl (exec_append (s := .tmp 58) (x := .tmp 64) rfl rfl rfl hr) ?_
                  refine hK.out _ _ (hS.trans' hM2 (fun k hk e => by omega)) (fun hS => ?_)
                  clear hK K hr hg
                  (try go_frame)
                  refine wpAnyL.ready (rs := [10]) (by kernel_rfl) (by simp) ?_
                  refine (AllReadyL.cons (o := ⟨some 67, _, _, _, _, none⟩) rfl (by decide) (fun K hK => ?_) AllReadyL.nil)
                  have hlt5 : V4.heap.size < (V4.alloc (.cells (tmA t) 27)).heap.size := (Blk.new V4 (tmA t) 27).lt
                  have hz5 := hlt5
                  have ht5 : TmV (V4.alloc (.cells (tmA t) 27)) (.slice (some ⟨V4.heap.size, 0, none⟩) 1 1) [t] := tm_one V4 t
                  have ho5 := ho4.still ((Mod.refl _ _).alloc (.cells (tmA t) 27))
                  have hne5 : ¬ (Value.ownBlock (.slice p4 s4 q4)) = some V4.heap.size := fun e => by have := (ho4.lt _ e).2; omega
                  refine step_run rfl (exec_build_tm (x := .tmp 66) (t := t) rfl rfl) ?_
                  refine hK.out _ _ (hS.alloc _) (fun hS => ?_)
                  clear hK K
                  generalize V4.alloc (.cells (tmA t) 27) = V5 at *
                  generalize V4.heap.size = z5 at *
                  (try go_frame)
                  refine wpAnyL.ready (rs := [11]) (by kernel_rfl) (by simp) ?_
                  refine (AllReadyL.cons (o := ⟨some 68, _, _, _, _, none⟩) rfl (by decide) (fun K hK => ?_) AllReadyL.nil)
                  have hWS : Y.heap.size ≤ V5.heap.size := hS.size
                  obtain ⟨p6, s6, q6, V6, hr, ho6, hg, hat6⟩ := OwnT.appendL ho5 (ht5) (by have := HN.out; have := HIN.out; simp only [List.nil_append, List.length_take, List.length_cons, List.length_nil]; omega) hWS 34
                  have hM2 : Mod (fun k => Y.heap.size ≤ k) V5 V6 := (Mod.refl _ _).grown hg (fun k hk _ => (ho5.lt k hk).1)
                  have hsz6 := hM2.size
                  refine step_run rfl (exec_append (s := .tmp 65) (x := .tmp 67) rfl rfl rfl hr) ?_
                  refine hK.out _ _ (hS.trans' hM2 (fun k hk e => by omega)) (fun hS => ?_)
                  clear hK K hr hg
                  (try go_frame)
                  refine wpAnyL.ready (rs := [18]) (by kernel_rfl) (by simp) ?_
                  refine (AllReadyL.cons (o := ⟨some 75, _, _, _, _, none⟩) rfl (by decide) (fun K hK => ?_) AllReadyL.nil)
                  have hWS : Y.heap.size ≤ V6.heap.size := hS.size
                  obtain ⟨p7, s7, q7, V7, hr, ho7, hg, hat7⟩ := OwnT.appendL ho6 (HS2.out.kept hS) (by have := HN.out; have := HIN.out; simp only [List.nil_append, List.length_append, List.length_take, List.length_drop, List.length_cons, List.length_nil]; omega) hWS 34
                  have hM2 : Mod (fun k => Y.heap.size ≤ k) V6 V7 := (Mod.refl _ _).grown hg (fun k hk _ => (ho6.lt k hk).1)
                  have hsz7 := hM2.size
                  refine step_run rfl (exec_append (s := .tmp 68) (x := .tmp 74) rfl rfl rfl hr) ?_
                  refine hK.out _ _ (hS.trans' hM2 (fun k hk e => by omega)) (fun hS => ?_)
                  clear hK K hr hg
                  (try go_frame)
                  refine' takeL (i := 19) (v := _) (some 76) rfl rfl (by kernel_rfl) (by kernel_rfl) (by kernel_rfl) (by kernel_rfl) (fun _ _ _ h => h) (Or.inl ⟨by rfl, fun X hX => ?_⟩) hS ?_
                  rotate_left
                  · go_simp; exact rfl
                  (try go_frame)
                  refine' takeL (i := 20) (v := _) (some 77) rfl rfl (by kernel_rfl) (by kernel_rfl) (by kernel_rfl) (by kernel_rfl) (fun _ _ _ h => h) (Or.inl ⟨by rfl, fun X hX => ?_⟩) hS ?_
                  rotate_left
                  · go_simp; exact rfl
                  (try go_frame)
                  refine wpAnyL.ready (rs := [21]) (by kernel_rfl) (by simp) ?_
                  refine AllReadyL.closing (o := ⟨none, _, _, _, _, none⟩) rfl (fun K hK => ?_)
                  have e0 : V7.cell? ⟨rb, 0, none⟩ = some (.slice (some ⟨bb, off, none⟩) n cap2) := hS.cellAt HCY.out (fun e => e)
                  have e1 : V7.frozen? ⟨rb, 0, none⟩ = false := (hS.blk HQY.out.2.blk (fun e => e)).free 0
                  go_simp
                  refine hK.out _ _ ?_
                  clear hK K e0 e1
                  refine wpAnyL.done (by kernel_rfl) ?_ _
                  have HR := Lib.hid (HQY.out.1.put hS ho7)
                  clear hS
                  generalize V7.setCell ⟨rb, 0, none⟩ (.slice p7 s7 q7) = V99 at *
                  go_wp2_with fail
                  go_ret
                  rw [HS.out.1, HS.out.2, HSP.out]
                  refine ⟨rfl, ?_⟩
                  obtain ⟨rv9, h1, h2, h3⟩ := HR.out
                  have e9 : ([] ++ D.take i ++ [t] ++ D.drop i) = D.take i ++ t :: D.drop i := by simp
                  rw [e9] at h1 h2
                  refine ⟨rv9, h1, fun k hk => ?_, (HF2.out.2.trans' HMY.out (fun _ _ h => h.elim)).trans h3⟩
                  rcases h2 k hk with e | e
                  · rcases HF2.out.1 k e with e | e
                    · exact .inl e
                    · exact .inr ⟨e.1, Nat.lt_of_lt_of_le e.2 (Nat.le_trans HMY.out.size h3.size)⟩
                  · exact .inr ⟨Nat.le_trans (Nat.le_trans HF2.out.2.size HMY.out.size) e.1, e.2⟩
                · have hlt4 : V3.heap.size < (V3.alloc (.cells (tmA t) 27)).heap.size := (Blk.new V3 (tmA t) 27).lt
                  have hz4 := hlt4
                  have ht4 : TmV (V3.alloc (.cells (tmA t) 27)) (.slice (some ⟨V3.heap.size, 0, none⟩) 1 1) [t] := tm_one V3 t
                  have ho4 := ho3.still ((Mod.refl _ _).alloc (.cells (tmA t) 27))
                  have hne4 : ¬ (Value.ownBlock (.slice (some ⟨g3, 0, none⟩) 0 0)) = some V3.heap.size := fun e => by have := (ho3.lt _ e).2; omega
                  refine step_run rfl (exec_build_tm (x := .tmp 66) (t := t) rfl rfl) ?_
                  refine hK.out _ _ (hS.alloc _) (fun hS => ?_)
                  clear hK K
                  generalize V3.alloc (.cells (tmA t) 27) = V4 at *
                  generalize V3.heap.size = z4 at *
                  (try go_frame)
                  refine wpAnyL.ready (rs := [8]) (by kernel_rfl) (by simp) ?_
                  refine (AllReadyL.cons (o := ⟨some 65, _, _, _, _, none⟩) rfl (by decide) (fun K hK => ?_) AllReadyL.nil)
                  have hWS : Y.heap.size ≤ V4.heap.size := hS.size
                  obtain ⟨p5, s5, q5, V5, hr, ho5, hg, hat5⟩ := OwnT.appendL ho4 (HS1.out.kept hS) (by have := HN.out; have := HIN.out; simp only [List.length_take, List.length_nil]; omega) hWS 34
                  have hM2 : Mod (fun k => Y.heap.size ≤ k) V4 V5 := (Mod.refl _ _).grown hg (fun k hk _ => (ho4.lt k hk).1)
                  have hsz5 := hM2.size
                  have ht5 : TmV V5 (.slice (some ⟨z4, 0, none⟩) 1 1) [t] := ((Mod.refl (fun k => Value.ownBlock (.slice (some ⟨g3, 0, none⟩) 0 0) = some k) _).grown hg (fun k hk _ => hk)).sl ht4 (fun _ g hg' e => hne4 (by simp [blockOf] at hg'; subst hg'; exact e))
                  have hz5 : z4 < V5.heap.size := Nat.lt_of_lt_of_le hz4 hsz5
                  have hne5 : ¬ (Value.slice p5 s5 q5).ownBlock = some z4 := fun e => by
                    rcases hat5 with e' | e'
                    · exact hne4 (e'.symm.trans e)
                    · rw [e'] at e
                      simp at e
                      have := hz4
                      omega
                  refine step_run rfl (exec_append (s := .tmp 58) (x := .tmp 64) rfl rfl rfl hr) ?_
                  refine hK.out _ _ (hS.trans' hM2 (fun k hk e => by omega)) (fun hS => ?_)
                  clear hK K hr hg
                  (try go_frame)
                  refine wpAnyL.ready (rs := [11]) (by kernel_rfl) (by simp) ?_
                  refine (AllReadyL.cons (o := ⟨some 68, _, _, _, _, none⟩) rfl (by decide) (fun K hK => ?_) AllReadyL.nil)
                  have hWS : Y.heap.size ≤ V5.heap.size := hS.size
                  obtain ⟨p6, s6, q6, V6, hr, ho6, hg, hat6⟩ := OwnT.appendL ho5 (ht5) (by have := HN.out; have := HIN.out; simp only [List.nil_append, List.length_take, List.length_cons, List.length_nil]; omega) hWS 34
                  have hM2 : Mod (fun k => Y.heap.size ≤ k) V5 V6 := (Mod.refl _ _).grown hg (fun k hk _ => (ho5.lt k hk).1)
                  have hsz6 := hM2.size
                  refine step_run rfl (exec_append (s := .tmp 65) (x := .tmp 67) rfl rfl rfl hr) ?_
                  refine hK.out _ _ (hS.trans' hM2 (fun k hk e => by omega)) (fun hS => ?_)
                  clear hK K hr hg
                  (try go_frame)
                  refine wpAnyL.ready (rs := [18]) (by kernel_rfl) (by simp) ?_
                  refine (AllReadyL.cons (o := ⟨some 75, _, _, _, _, none⟩) rfl (by decide) (fun K hK => ?_) AllReadyL.nil)
                  have hWS : Y.heap.size ≤ V6.heap.size := hS.size
                  obtain ⟨p7, s7, q7, V7, hr, ho7, hg, hat7⟩ := OwnT.appendL ho6 (HS2.out.kept hS) (by have := HN.out; have := HIN.out; simp only [List.nil_append, List.length_append, List.length_take, List.length_drop, List.length_cons, List.length_nil]; omega) hWS 34
                  have hM2 : Mod (fun k => Y.heap.size ≤ k) V6 V7 := (Mod.refl _ _).grown hg (fun k hk _ => (ho6.lt k hk).1)
                  have hsz7 := hM2.size
                  refine step_run rfl (exec_append (s := .tmp 68) (x := .tmp 74) rfl rfl rfl hr) ?_
                  refine hK.out _ _ (hS.trans' hM2 (fun k hk e => by omega)) (fun hS => ?_)
                  clear hK K hr hg
                  (try go_frame)
                  refine' takeL (i := 19) (v := _) (some 76) rfl rfl (by kernel_rfl) (by kernel_rfl) (by kernel_rfl) (by kernel_rfl) (fun _ _ _ h => h) (Or.inl ⟨by rfl, fun X hX => ?_⟩) hS ?_
                  rotate_left
                  · go_simp; exact rfl
                  (try go_frame)
                  refine' takeL (i := 20) (v := _) (some 77) rfl rfl (by kernel_rfl) (by kernel_rfl) (by kernel_rfl) (by kernel_rfl) (fun _ _ _ h => h) (Or.inl ⟨by rfl, fun X hX => ?_⟩) hS ?_
                  rotate_left
                  · go_simp; exact rfl
                  (try go_frame)
                  refine wpAnyL.ready (rs := [21]) (by kernel_rfl) (by simp) ?_
                  refine AllReadyL.closing (o := ⟨none, _, _, _, _, none⟩) rfl (fun K hK => ?_)
                  have e0 : V7.cell? ⟨rb, 0, none⟩ = some (.slice (some ⟨bb, off, none⟩) n cap2) := hS.cellAt HCY.out (fun e => e)
                  have e1 : V7.frozen? ⟨rb, 0, none⟩ = false := (hS.blk HQY.out.2.blk (fun e => e)).free 0
                  go_simp
                  refine hK.out _ _ ?_
                  clear hK K e0 e1
                  refine wpAnyL.done (by kernel_rfl) ?_ _
                  have HR := Lib.hid (HQY.out.1.put hS ho7)
                  clear hS
                  generalize V7.setCell ⟨rb, 0, none⟩ (.slice p7 s7 q7) = V99 at *
                  go_wp2_with fail
                  go_ret
                  rw [HS.out.1, HS.out.2, HSP.out]
                  refine ⟨rfl, ?_⟩
                  obtain ⟨rv9, h1, h2, h3⟩ := HR.out
                  have e9 : ([] ++ D.take i ++ [t] ++ D.drop i) = D.take i ++ t :: D.drop i := by simp
                  rw [e9] at h1 h2
                  refine ⟨rv9, h1, fun k hk => ?_, (HF2.out.2.trans' HMY.out (fun _ _ h => h.elim)).trans h3⟩
                  rcases h2 k hk with e | e
                  · rcases HF2.out.1 k e with e | e
                    · exact .inl e
                    · exact .inr ⟨e.1, Nat.lt_of_lt_of_le e.2 (Nat.le_trans HMY.out.size h3.size)⟩
                  · exact .inr ⟨Nat.le_trans (Nat.le_trans HF2.out.2.size HMY.out.size) e.1, e.2⟩
              · have hlt3 : V2.heap.size < (V2.alloc (.cells (tmA t) 27)).heap.size := (Blk.new V2 (tmA t) 27).lt
                have hz3 := hlt3
                have ht3 : TmV (V2.alloc (.cells (tmA t) 27)) (.slice (some ⟨V2.heap.size, 0, none⟩) 1 1) [t] := tm_one V2 t
                refine step_run rfl (exec_build_tm (x := .tmp 66) (t := t) rfl rfl) ?_
                refine hK.out _ _ (hS.alloc _) (fun hS => ?_)
                clear hK K
                generalize V2.alloc (.cells (tmA t) 27) = V3 at *
                generalize V2.heap.size = z3 at *
                (try go_frame)
                refine wpAnyL.ready (rs := [1]) (by kernel_rfl) (by simp) ?_
                refine (AllReadyL.cons (o := ⟨some 58, _, _, _, _, none⟩) rfl (by decide) (fun K hK => ?_) AllReadyL.nil)
                have hb4 : Y.heap.size ≤ V3.heap.size := hS.size
                have ho4 := own0 hb4
                have hlt4 : V3.heap.size < (V3.alloc (.cells #[] 27)).heap.size := (Blk.new V3 #[] 27).lt
                have hsz4 : V3.heap.size ≤ (V3.alloc (.cells #[] 27)).heap.size := by omega
                have ht4 := ht3.kept ((Mod.refl _ _).alloc (.cells #[] 27))
                have hz4 : z3 < (V3.alloc (.cells #[] 27)).heap.size := Nat.lt_of_lt_of_le hz3 hsz4
                have hne4 : ¬ (Value.slice (some ⟨V3.heap.size, 0, none⟩) 0 0).ownBlock = some z3 := fun e => by simp [Value.ownBlock] at e; have := hz3; omega
                refine step_run rfl (exec_build0 rfl) ?_
                refine hK.out _ _ (hS.alloc _) (fun hS => ?_)
                clear hK K
                generalize V3.alloc (.cells #[] 27) = V4 at *
                generalize V3.heap.size = g4 at *
                (try go_frame)
                refine wpAnyL.ready (rs := [8]) (by kernel_rfl) (by simp) ?_
                refine (AllReadyL.cons (o := ⟨some 65, _, _, _, _, none⟩) rfl (by decide) (fun K hK => ?_) AllReadyL.nil)
                have hWS : Y.heap.size ≤ V4.heap.size := hS.size
                obtain ⟨p5, s5, q5, V5, hr, ho5, hg, hat5⟩ := OwnT.appendL ho4 (HS1.out.kept hS) (by have := HN.out; have := HIN.out; simp only [List.length_take, List.length_nil]; omega) hWS 34
                have hM2 : Mod (fun k => Y.heap.size ≤ k) V4 V5 := (Mod.refl _ _).grown hg (fun k hk _ => (ho4.lt k hk).1)
                have hsz5 := hM2.size
                have ht5 : TmV V5 (.slice (some ⟨z3, 0, none⟩) 1 1) [t] := ((Mod.refl (fun k => Value.ownBlock (.slice (some ⟨g4, 0, none⟩) 0 0) = some k) _).grown hg (fun k hk _ => hk)).sl ht4 (fun _ g hg' e => hne4 (by simp [blockOf] at hg'; subst hg'; exact e))
                have hz5 : z3 < V5.heap.size := Nat.lt_of_lt_of_le hz4 hsz5
                have hne5 : ¬ (Value.slice p5 s5 q5).ownBlock = some z3 := fun e => by
                  rcases hat5 with e' | e'
                  · exact hne4 (e'.symm.trans e)
                  · rw [e'] at e
                    simp at e
                    have := hz4
                    omega
                refine step_run rfl (exec_append (s := .tmp 58) (x := .tmp 64) rfl rfl rfl hr) ?_
                refine hK.out _ _ (hS.trans' hM2 (fun k hk e => by omega)) (fun hS => ?_)
                clear hK K hr hg
                (try go_frame)
                refine wpAnyL.ready (rs := [11]) (by kernel_rfl) (by simp) ?_
                refine (AllReadyL.cons (o := ⟨some 68, _, _, _, _, none⟩) rfl (by decide) (fun K hK => ?_) AllReadyL.nil)
                have hWS : Y.heap.size ≤ V5.heap.size := hS.size
                obtain ⟨p6, s6, q6, V6, hr, ho6, hg, hat6⟩ := OwnT.appendL ho5 (ht5) (by have := HN.out; have := HIN.out; simp only [List.nil_append, List.length_take, List.length_cons, List.length_nil]; omega) hWS 34
                have hM2 : Mod (fun k => Y.heap.size ≤ k) V5 V6 := (Mod.refl _ _).grown hg (fun k hk _ => (ho5.lt k hk).1)
                have hsz6 := hM2.size
                refine step_run rfl (exec_append (s := .tmp 65) (x := .tmp 67) rfl rfl rfl hr) ?_
                refine hK.out _ _ (hS.trans' hM2 (fun k hk e => by omega)) (fun hS => ?_)
                clear hK K hr hg
                (try go_frame)
                refine wpAnyL.ready (rs := [18]) (by kernel_rfl) (by simp) ?_
                refine (AllReadyL.cons (o := ⟨some 75, _, _, _, _, none⟩) rfl (by decide) (fun K hK => ?_) AllReadyL.nil)
                have hWS : Y.heap.size ≤ V6.heap.size := hS.size
                obtain ⟨p7, s7, q7, V7, hr, ho7, hg, hat7⟩ := OwnT.appendL ho6 (HS2.out.kept hS) (by have := HN.out; have := HIN.out; simp only [List.nil_append, List.length_append, List.length_take, List.length_drop, List.length_cons, List.length_nil]; omega) hWS 34
                have hM2 : Mod (fun k => Y.heap.size ≤ k) V6 V7 := (Mod.refl _ _).grown hg (fun k hk _ => (ho6.lt k hk).1)
                have hsz7 := hM2.size
                refine step_run rfl (exec_append (s := .tmp 68) (x := .tmp 74) rfl rfl rfl hr) ?_
                refine hK.out _ _ (hS.trans' hM2 (fun k hk e => by omega)) (fun hS => ?_)
                clear hK K hr hg
                (try go_frame)
                refine' takeL (i := 19) (v := _) (some 76) rfl rfl (by kernel_rfl) (by kernel_rfl) (by kernel_rfl) (by kernel_rfl) (fun _ _ _ h => h) (Or.inl ⟨by rfl, fun X hX => ?_⟩) hS ?_
                rotate_left
                · go_simp; exact rfl
                (try go_frame)
                refine' takeL (i := 20) (v := _) (some 77) rfl rfl (by kernel_rfl) (by kernel_rfl) (by kernel_rfl) (by kernel_rfl) (fun _ _ _ h => h) (Or.inl ⟨by rfl, fun X hX => ?_⟩) hS ?_
                rotate_left
                · go_simp; exact rfl
                (try go_frame)
                refine wpAnyL.ready (rs := [21]) (by kernel_rfl) (by simp) ?_
                refine AllReadyL.closing (o := ⟨none, _, _, _, _, none⟩) rfl (fun K hK => ?_)
                have e0 : V7.cell? ⟨rb, 0, none⟩ = some (.slice (some ⟨bb, off, none⟩) n cap2) := hS.cellAt HCY.out (fun e => e)
                have e1 : V7.frozen? ⟨rb, 0, none⟩ = false := (hS.blk HQY.out.2.blk (fun e => e)).free 0
                go_simp
                refine hK.out _ _ ?_
                clear hK K e0 e1
                refine wpAnyL.done (by kernel_rfl) ?_ _
                have HR := Lib.hid (HQY.out.1.put hS ho7)
                clear hS
                generalize V7.setCell ⟨rb, 0, none⟩ (.slice p7 s7 q7) = V99 at *
                go_wp2_with fail
                go_ret
                rw [HS.out.1, HS.out.2, HSP.out]
                refine ⟨rfl, ?_⟩
                obtain ⟨rv9, h1, h2, h3⟩ := HR.out
                have e9 : ([] ++ D.take i ++ [t] ++ D.drop i) = D.take i ++ t :: D.drop i := by simp
                rw [e9] at h1 h2
                refine ⟨rv9, h1, fun k hk => ?_, (HF2.out.2.trans' HMY.out (fun _ _ h => h.elim)).trans h3⟩
                rcases h2 k hk with e | e
                · rcases HF2.out.1 k e with e | e
                  · exact .inl e
                  · exact .inr ⟨e.1, Nat.lt_of_lt_of_le e.2 (Nat.le_trans HMY.out.size h3.size)⟩
                · exact .inr ⟨Nat.le_trans (Nat.le_trans HF2.out.2.size HMY.out.size) e.1, e.2⟩
end Go.Proofs.Ytodcadcapmhgfaa
