/- A timer that is due: the program's; a queue that is made. -/
import Derived.Test.YtodcadcapmhgfaaTeI
namespace Go.Proofs.Ytodcadcapmhgfaa
open Go.RowKit

def tm0 : Tm := ⟨0, 0, 0⟩
theorem tm0_A : tmA tm0 = #[.int .u64 0, .int .i64 0, .int .i64 0] := rfl
def DueR (w0 w : World) (B qb : Nat) (v : Value) (mb N : Nat) (now : Nat) (L : List Tm) (e : Ending) : Prop :=
  e = .returned (.tuple #[.agg (tmA ((dueT now L).1.getD tm0)), .bool (dueT now L).1.isSome]) ∧ ChgR w0 w B qb v mb N (dueT now L).2
theorem due_cons (now : Nat) (a : Tm) (L : List Tm) : dueT now (a :: L) = if now < a.t then (none, a :: L) else (some a, L) := rfl
theorem del_head {a : Tm} {L : List Tm} (h : QL (a :: L)) : delT a.c a.k (a :: L) = L := by
  have h1 := del_perm h.s h.u (a := a) (by simp)
  exact SortedT.eq (h.del a.c a.k).s h.tail.s (h1.cons_inv)
set_option maxHeartbeats 4000000 in
theorem due_nil (w : World) (now : Nat) : Calls Try.prog 10 #[.pointer none, .int .u64 (now : Int)] w fun e w' => e = .returned (.tuple #[.agg (tmA tm0), .bool false]) ∧ Mod (fun _ => False) w w' := by
  go_enter Try.func10, Try.ntmps10
  go_upto_region 1 with fail
  have hB4 : Blk (w.alloc (.cells #[.int .u64 0, .int .i64 0, .int .i64 0] 27)) w.heap.size #[.int .u64 0, .int .i64 0, .int .i64 0] 27 := Blk.new _ _ _
  have HM4 : Hid (Mod (fun _ => False) w (w.alloc (.cells #[.int .u64 0, .int .i64 0, .int .i64 0] 27))) := Lib.hid ((Mod.refl _ _).alloc _)
  have HB4 := Lib.hid hB4
  clear hB4
  generalize w.alloc (.cells #[.int .u64 0, .int .i64 0, .int .i64 0] 27) = W at *
  obtain ⟨p4, hp4⟩ : ∃ p, p = w.heap.size := ⟨_, rfl⟩
  rw [← hp4] at HB4 ⊢
  have HP4 := Lib.hid hp4
  clear hp4
  go_wp2_with (first
    | (go_at_call 14; refine (len_nil _).mono ?_; rintro e w1 ⟨rfl, rfl⟩)
    | ((with_reducible refine wpList_store_blk ?_ 27 (.tmp 4) (.tmp 20) ?_ p4 ?_ _ (tmA tm0) ?_ 27 HB4.out (size_tm tm0) ?_ (tmA_one tm0) ?_); (· exact rfl); (· exact rfl); (· exact rfl); (· exact rfl); (· exact rfl); intro w11 hB11 hM11; have H11 := Lib.hid (And.intro hB11 hM11); clear hB11 hM11)
    | fail)
  refine bodyPost_ret (v := .tuple #[.agg (tmA tm0), .bool false]) ?_ rfl ?_
  · exact results_cell_tmp (t := 4) (u := 5) (b := p4) rfl _ rfl (blk_loadVar H11.out.1 Try.underlying27 rfl (size_tm tm0))
  exact ⟨rfl, HM4.out.trans' H11.out.2 (fun k hk e => by have := HP4.out; omega)⟩
set_option maxHeartbeats 4000000 in
theorem due_any {w : World} {B qb mb N : Nat} {v : Value} {L : List Tm} (now : Nat) (q : QOk w B qb v mb N L) (hN : N + 1000 < maxLen) (hB : B ≤ w.heap.size) :
    Calls Try.prog 10 #[.pointer (some ⟨qb, 0, none⟩), .int .u64 (now : Int)] w fun e w' => DueR w w' B qb v mb (N + 1000) now L e := by
  have hM4 : Mod (fun _ => False) w (w.alloc (.cells #[.int .u64 0, .int .i64 0, .int .i64 0] 27)) := (Mod.refl _ _).alloc _
  have HM4 := Lib.hid hM4
  have HQ := Lib.hid (q.still hM4)
  have HB4 : Hid (Blk (w.alloc (.cells #[.int .u64 0, .int .i64 0, .int .i64 0] 27)) w.heap.size (tmA tm0) 27) := Lib.hid (Blk.new _ _ _)
  have HBB := Lib.hid (And.intro hB hN)
  have HQ0 := Lib.hid q
  clear hM4 hB hN
  obtain ⟨W, hW⟩ : ∃ W, W = w.alloc (.cells #[.int .u64 0, .int .i64 0, .int .i64 0] 27) := ⟨_, rfl⟩
  rw [← hW] at HM4 HQ HB4
  obtain ⟨p4, hp4⟩ : ∃ p, p = w.heap.size := ⟨_, rfl⟩
  rw [← hp4] at HB4
  have HP4 := Lib.hid hp4
  have hno : ∀ k, QB qb v mb k → ¬ k = p4 := fun k hk e => by have := (q.blocks k hk).2; omega
  have HNO := Lib.hid hno
  clear hno
  obtain ⟨⟨n, h, f, h1, h2, h3, h4, h5⟩, hl, hk⟩ := HQ.out
  by_cases hdue : (dueT now L).1 = none
  · have HE : Hid (dueT now L = (none, L)) := Lib.hid (by
      cases L with
      | nil => rfl
      | cons a L =>
        rw [due_cons] at hdue ⊢
        by_cases hn : now < a.t
        · rw [if_pos hn]
        · rw [if_neg hn] at hdue
          cases hdue)
    have hend : ∀ (w11 : World), Blk w11 p4 (tmA tm0) 27 → Mod (fun k => k = p4) W w11 → ChgR w w11 B qb v mb (N + 1000) L := by
      intro w11 _ hM
      refine ⟨v, (HQ.out.kept hM HNO.out).more (by omega), ?_, fun k hk => .inl hk⟩
      exact (HM4.out.mono (T := QB qb v mb) (fun _ _ h => h.elim)).trans' hM (fun k hk e => by have := HP4.out; omega)
    have HEND := Lib.hid hend
    clear hend
    cases L with
    | nil =>
      clear h1 h2 h3 h4 h5 hl hk hdue q
      go_enter Try.func10, Try.ntmps10
      go_upto_region 1 with fail
      rw [← hW, ← hp4]
      clear hW hp4
      go_wp2_with (first
        | (go_at_call 14; refine (len_any HQ.out).mono ?_; rintro e w1 ⟨rfl, rfl⟩)
        | ((with_reducible refine wpList_store_blk ?_ 27 (.tmp 4) (.tmp 20) ?_ p4 ?_ _ (tmA tm0) ?_ 27 HB4.out (size_tm tm0) ?_ (tmA_one tm0) ?_); (· exact rfl); (· exact rfl); (· exact rfl); (· exact rfl); (· exact rfl); intro w11 hB11 hM11; have H11 := Lib.hid (And.intro hB11 hM11); clear hB11 hM11)
        | fail)
      refine bodyPost_ret (v := .tuple #[.agg (tmA tm0), .bool false]) ?_ rfl ?_
      · exact results_cell_tmp (t := 4) (u := 5) (b := p4) rfl _ rfl (blk_loadVar H11.out.1 Try.underlying27 rfl (size_tm tm0))
      exact ⟨rfl, HEND.out _ H11.out.1 H11.out.2⟩
    | cons x L =>
      have hlen := h4.length_eq
      obtain ⟨a, ha⟩ : ∃ a, h[0]? = some a := ⟨_, List.getElem?_eq_getElem (by rw [hlen]; simp)⟩
      obtain rfl := head_eq h3 h4 hl.s ha
      obtain ⟨g, cap, hv, hcap, -, hra⟩ := h1.own.at ha
      have c0 : W.cell? ⟨qb, 0, none⟩ = some v := h1.blk.cellAt 0 rfl
      have c1 : W.cell? ⟨g, 0, none⟩ = some (.int .u64 (a.t : Int)) := by
        have := hra 0 _ rfl
        simpa using this
      rw [hv] at c0
      obtain ⟨m, hm⟩ : ∃ m, m = h.length := ⟨_, rfl⟩
      rw [← hm] at c0
      have m0 : (0 : Int) < (m : Int) := by rw [hm, hlen]; simp
      have mc : 0 < m := by rw [hm, hlen]; simp
      have hE : Hid ((L.length : Int) + 1 = (m : Int)) := Lib.hid (by rw [hm, hlen]; simp)
      have hm2 : ((m : Int) == 0) = false := by simp; omega
      have hlt : decide ((now : Int) < (a.t : Int)) = true := by
        rw [due_cons] at hdue
        by_cases hn : now < a.t
        · simp; omega
        · rw [if_neg hn] at hdue
          cases hdue
      have hlt2 : decide (now < a.t) = true := by simpa using hlt
      obtain ⟨at', hat⟩ : ∃ x, x = a.t := ⟨_, rfl⟩
      rw [← hat] at c1 hlt hlt2
      clear hm hlen ha hcap hra h1 h2 h3 h4 h5 hl hk q hdue hv hat
      go_enter Try.func10, Try.ntmps10
      go_upto_region 1 with fail
      rw [← hW, ← hp4]
      clear hW hp4
      go_wp2_with (first
        | (go_at_call 14; refine (len_any HQ.out).mono ?_; rintro e w1 ⟨rfl, rfl⟩; rw [List.length_cons, Int.natCast_add, Int.natCast_one, hE.out])
        | ((with_reducible refine wpList_store_blk ?_ 27 (.tmp 4) (.tmp 20) ?_ p4 ?_ _ (tmA tm0) ?_ 27 HB4.out (size_tm tm0) ?_ (tmA_one tm0) ?_); (· exact rfl); (· exact rfl); (· exact rfl); (· exact rfl); (· exact rfl); intro w11 hB11 hM11; have H11 := Lib.hid (And.intro hB11 hM11); clear hB11 hM11)
        | fail)
      refine bodyPost_ret (v := .tuple #[.agg (tmA tm0), .bool false]) ?_ rfl ?_
      · exact results_cell_tmp (t := 4) (u := 5) (b := p4) rfl _ rfl (blk_loadVar H11.out.1 Try.underlying27 rfl (size_tm tm0))
      unfold DueR
      rw [HE.out]
      exact ⟨rfl, HEND.out _ H11.out.1 H11.out.2⟩
  · cases L with
    | nil => exact absurd rfl hdue
    | cons x L =>
      have hlen := h4.length_eq
      obtain ⟨a, ha⟩ : ∃ a, h[0]? = some a := ⟨_, List.getElem?_eq_getElem (by rw [hlen]; simp)⟩
      obtain rfl := head_eq h3 h4 hl.s ha
      obtain ⟨g, cap, hv, hcap, -, hra⟩ := h1.own.at ha
      have HE : Hid (dueT now (a :: L) = (some a, L)) := Lib.hid (by
        rw [due_cons] at hdue ⊢
        by_cases hn : now < a.t
        · rw [if_pos hn] at hdue
          exact absurd rfl hdue
        · rw [if_neg hn])
      have hlt : decide ((now : Int) < (a.t : Int)) = false := by
        rw [due_cons] at hdue
        by_cases hn : now < a.t
        · rw [if_pos hn] at hdue
          exact absurd rfl hdue
        · simp; omega
      have hlt2 : decide (now < a.t) = false := by simpa using hlt
      have c0 : W.cell? ⟨qb, 0, none⟩ = some v := h1.blk.cellAt 0 rfl
      have c1 : W.cell? ⟨g, 0, none⟩ = some (.int .u64 (a.t : Int)) := by
        have := hra 0 _ rfl
        simpa using this
      rw [hv] at c0
      obtain ⟨m, hm⟩ : ∃ m, m = h.length := ⟨_, rfl⟩
      rw [← hm] at c0
      have m0 : (0 : Int) < (m : Int) := by rw [hm, hlen]; simp
      have mc : 0 < m := by rw [hm, hlen]; simp
      have hE : Hid ((L.length : Int) + 1 = (m : Int)) := Lib.hid (by rw [hm, hlen]; simp)
      have hm2 : ((m : Int) == 0) = false := by simp; omega
      have HH : Hid (QM W B qb v mb n h f ∧ Cons h f ∧ h[0]? = some a ∧ h.length ≤ 200 ∧ Heap h ∧ n + 1000 < maxLen ∧ OkAll h ∧ B ≤ W.heap.size) := Lib.hid ⟨h1, h2, ha, by rw [hlen]; exact hl.n, h3, by have := HBB.out.2; omega, fun t ht => hk t (h4.mem_iff.1 ht), by have := HM4.out.size; have := HBB.out.1; omega⟩
      have HL : Hid (h.Perm (a :: L) ∧ QL (a :: L) ∧ OkAll (a :: L) ∧ n ≤ N) := Lib.hid ⟨h4, hl, hk, h5⟩
      obtain ⟨at', hat⟩ : ∃ x, x = a.t := ⟨_, rfl⟩
      rw [← hat] at c1 hlt hlt2
      clear hm hlen ha hcap hra h1 h2 h3 h4 h5 hl hk q hdue hv hat
      go_enter Try.func10, Try.ntmps10
      go_upto_region 1 with fail
      rw [← hW, ← hp4]
      clear hW hp4
      go_wp2_with (first
        | (go_at_call 14; refine (len_any HQ.out).mono ?_; rintro e w1 ⟨rfl, rfl⟩; rw [List.length_cons, Int.natCast_add, Int.natCast_one, hE.out])
        | (go_at_call 26; refine (cut_any (i := 0) HH.out.1 HH.out.2.1 HH.out.2.2.1 HH.out.2.2.2.1 HH.out.2.2.2.2.1 HH.out.2.2.2.2.2.1 HH.out.2.2.2.2.2.2.1 HH.out.2.2.2.2.2.2.2).mono ?_; rintro e w9 hcut; obtain ⟨rfl, hchg⟩ := cut_ok HL.out.1 HL.out.2.1 HL.out.2.2.1 (by simp) hcut; have HC := Lib.hid hchg; have HB9 : Hid (Blk w9 p4 (tmA tm0) 27) := Lib.hid (by obtain ⟨v', _, hM, _⟩ := hchg; exact hM.blk HB4.out (fun e => HNO.out _ e rfl)); clear hcut hchg)
        | ((with_reducible refine wpList_store_blk ?_ 27 (.tmp 4) (.tmp 22) ?_ p4 ?_ _ (tmA a) ?_ 27 HB9.out (size_tm a) ?_ (tmA_one a) ?_); (· exact rfl); (· exact rfl); (· exact rfl); (· exact rfl); (· exact rfl); intro w11 hB11 hM11; have H11 := Lib.hid (And.intro hB11 hM11); clear hB11 hM11)
        | fail)
      refine bodyPost_ret (v := .tuple #[.agg (tmA a), .bool true]) ?_ rfl ?_
      · exact results_cell_tmp (t := 4) (u := 5) (b := p4) rfl _ rfl (blk_loadVar H11.out.1 Try.underlying27 rfl (size_tm a))
      unfold DueR
      rw [HE.out]
      obtain ⟨v', hq, hM, ho⟩ := HC.out
      rw [del_head HL.out.2.1] at hq
      have hno2 : ∀ k, QB qb v' mb k → ¬ k = p4 := by
        rintro k (e | e | e) e2
        · exact HNO.out k (Or.inl e) e2
        · have e3 := HP4.out
          rcases ho k e with e4 | e4
          · exact HNO.out k (Or.inr (Or.inl e4)) e2
          · have := HB4.out.lt
            omega
        · exact HNO.out k (Or.inr (Or.inr e)) e2
      refine ⟨rfl, v', (hq.kept H11.out.2 hno2).more (by have := HL.out.2.2.2; omega), ?_, fun k hk => ?_⟩
      · exact ((HM4.out.mono (T := QB qb v mb) (fun _ _ h => h.elim)).trans hM).trans' H11.out.2 (fun k hk e => by have := HP4.out; omega)
      · rcases ho k hk with e | e
        · exact .inl e
        · exact .inr (by have := HM4.out.size; omega)
set_option maxHeartbeats 4000000 in
theorem new_any (w : World) : Calls Try.prog 18 #[] w fun e w' => ∃ qb mb, e = .returned (.pointer (some ⟨qb, 0, none⟩)) ∧ QOk w' w.heap.size qb (.slice none 0 0) mb 0 [] ∧ Mod (fun _ => False) w w' := by
  have hmm := @run_makeMap Try.prog
  have hm1 := WMap.made w
  have hM1 : Mod (fun _ => False) w (w.alloc (.map #[] 0)) := (Mod.refl _ _).alloc _
  have HM := Lib.hid (And.intro hm1 hM1)
  clear hm1 hM1
  go_enter Try.func18, Try.ntmps18
  go_wp2_with fail
  have hb := Blk.new (w.alloc (.map #[] 0)) #[.slice none 0 0, .map (some w.heap.size)] 51
  have hs : (w.alloc (.map #[] 0)).heap.size = w.heap.size + 1 := by simp
  have hM2 := HM.out.2.alloc (.cells #[.slice none 0 0, .map (some w.heap.size)] 51)
  have hw := HM.out.1.kept ((Mod.refl (fun _ => False) (w.alloc (.map #[] 0))).alloc (.cells #[.slice none 0 0, .map (some w.heap.size)] 51)) (fun e => e)
  go_ret
  refine ⟨_, w.heap.size, rfl, ⟨⟨0, [], fun _ => none, ⟨?_, Nat.le_refl _, ?_, OwnT.nil _ _, ?_⟩, ⟨fun i t h => by simp at h, fun _ _ => rfl⟩, fun j a b _ h => by simp at h, List.Perm.refl _, Nat.le_refl _⟩, QL.nil, fun t h => by simp at h⟩, hM2⟩
  · omega
  · rw [hs] at hb
    exact hb
  · exact hw
end Go.Proofs.Ytodcadcapmhgfaa
