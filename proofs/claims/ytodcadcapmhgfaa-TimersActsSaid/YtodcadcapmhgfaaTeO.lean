/- A connection's timers go: the program's. -/
import Derived.Test.YtodcadcapmhgfaaTeL
namespace Go.Proofs.Ytodcadcapmhgfaa
open Go.RowKit

/-- What is left when the first 'i' have been looked at. -/
def dropI (c : Int) (i : Nat) (L : List Tm) : List Tm := dropL c (L.take i) ++ L.drop i
theorem dropI_0 (c : Int) (L : List Tm) : dropI c 0 L = L := by simp [dropI, dropL]
theorem dropI_all (c : Int) (L : List Tm) : dropI c L.length L = dropL c L := by simp [dropI]
theorem dropI_other {c : Int} {i : Nat} {L : List Tm} {x : Tm} (hx : L[i]? = some x) (hc : x.c ≠ c) : dropI c (i + 1) L = dropI c i L := by
  have hi := (List.getElem?_eq_some_iff.1 hx).1
  have e : L.drop i = x :: L.drop (i + 1) := by
    rw [List.drop_eq_getElem_cons hi, (List.getElem?_eq_some_iff.1 hx).2]
  unfold dropI
  rw [List.take_add_one, hx, e]
  simp [dropL, hc]
theorem dropI_same {c : Int} {i : Nat} {L : List Tm} {x : Tm} (hl : QL L) (hx : L[i]? = some x) (hc : x.c = c) : hasK c x.k (dropI c i L) = true ∧ delT c x.k (dropI c i L) = dropI c (i + 1) L := by
  have hi := (List.getElem?_eq_some_iff.1 hx).1
  have e : L.drop i = x :: L.drop (i + 1) := by
    rw [List.drop_eq_getElem_cons hi, (List.getElem?_eq_some_iff.1 hx).2]
  have hkx : keyT x = (c, x.k) := by unfold keyT; rw [hc]
  have hnd : L.Nodup := nodup_s hl.s
  have eL : L = L.take i ++ x :: L.drop (i + 1) := by rw [← e, List.take_append_drop]
  refine ⟨has_iff.2 ⟨x, by unfold dropI; rw [e]; simp, hkx⟩, ?_⟩
  have n1 : ∀ a ∈ dropL c (L.take i), keyT a ≠ (c, x.k) := by
    intro a ha he
    have h1 := (List.mem_filter.1 ha).2
    have h2 : a.c = c := congrArg Prod.fst he
    rw [h2] at h1
    simp at h1
  have n2 : ∀ a ∈ L.drop (i + 1), keyT a ≠ (c, x.k) := by
    intro a ha he
    have ha' : a ∈ L := List.mem_of_mem_drop ha
    have hx' : x ∈ L := List.mem_of_getElem? hx
    have := hl.u a ha' x hx' (he.trans hkx.symm)
    subst this
    rw [eL] at hnd
    have := (List.nodup_append.1 hnd).2.1
    rw [List.nodup_cons] at this
    exact this.1 ha
  unfold dropI
  rw [e, List.take_add_one, hx]
  have d1 := delT_none n1
  have d2 := delT_none n2
  have dx : delT c x.k [x] = [] := by
    unfold delT
    simp [hc]
  show delT c x.k (dropL c (L.take i) ++ ([x] ++ L.drop (i + 1))) = _
  have app : ∀ a b : List Tm, delT c x.k (a ++ b) = delT c x.k a ++ delT c x.k b := fun a b => by unfold delT; rw [List.filter_append]
  rw [app, app, d1, d2, dx]
  simp [dropL, hc]
theorem dropI_len {c : Int} {i : Nat} {L : List Tm} (hi : i ≤ L.length) : (dropI c i L).length ≤ L.length ∧ L.length ≤ (dropI c i L).length + i := by
  have h1 : (dropL c (L.take i)).length ≤ i := by
    have := List.length_filter_le (fun t : Tm => !decide (t.c = c)) (L.take i)
    unfold dropL
    rw [List.length_take] at this
    omega
  unfold dropI
  rw [List.length_append, List.length_drop]
  omega
/-- One change behind the other. -/
structure Chg (w0 w : World) (B qb : Nat) (v v' : Value) (mb N : Nat) (L : List Tm) : Prop where
  q : QOk w B qb v' mb N L
  m : Mod (QB qb v mb) w0 w
  o : ∀ k, v'.ownBlock = some k → v.ownBlock = some k ∨ w0.heap.size ≤ k
theorem Chg.of {w0 w : World} {B qb mb N : Nat} {v : Value} {L : List Tm} (h : ChgR w0 w B qb v mb N L) : ∃ v', Chg w0 w B qb v v' mb N L := by
  obtain ⟨v', h1, h2, h3⟩ := h
  exact ⟨v', h1, h2, h3⟩
theorem Chg.r {w0 w : World} {B qb mb N : Nat} {v v' : Value} {L : List Tm} (h : Chg w0 w B qb v v' mb N L) : ChgR w0 w B qb v mb N L := ⟨v', h.q, h.m, h.o⟩
theorem Chg.qb {w0 w : World} {B qb mb N : Nat} {v v' : Value} {L : List Tm} (h : Chg w0 w B qb v v' mb N L) (k : Nat) (hk : QB qb v' mb k) : QB qb v mb k ∨ w0.heap.size ≤ k := by
  rcases hk with e | e | e
  · exact .inl (.inl e)
  · rcases h.o k e with e | e
    · exact .inl (.inr (.inl e))
    · exact .inr e
  · exact .inl (.inr (.inr e))
theorem Chg.trans {w0 w1 w2 : World} {B qb mb N N' : Nat} {v v1 v2 : Value} {L L' : List Tm} (h : Chg w0 w1 B qb v v1 mb N L) (k : Chg w1 w2 B qb v1 v2 mb N' L') : Chg w0 w2 B qb v v2 mb N' L' := by
  refine ⟨k.q, h.m.trans' k.m (fun j hj e => ?_), fun j hj => ?_⟩
  · rcases h.qb j e with e | e
    · exact e
    · omega
  · rcases k.o j hj with e | e
    · exact h.o j e
    · exact .inr (Nat.le_trans h.m.size e)
theorem Chg.still {w0 w w' : World} {B qb mb N : Nat} {v v' : Value} {L : List Tm} (h : Chg w0 w B qb v v' mb N L) (hM : Mod (fun _ => False) w w') : Chg w0 w' B qb v v' mb N L :=
  ⟨h.q.still hM, h.m.trans (hM.mono (fun _ _ e => e.elim)), h.o⟩
theorem drop_nil (w : World) (c : Int) : Calls Try.prog 13 #[.pointer none, .int .i64 c] w fun e w' => w = w' ∧ e = .returned (.int .i64 0) := by
  go_enter Try.func13, Try.ntmps13
  go_wp2_with (first | (go_at_call 15; refine (list_nil _).mono ?_; rintro e w1 ⟨rfl, rfl⟩) | fail)
  refine wp_loop_rounds 1 ?_
  rw [rounds_succ]
  go_wp2_with fail
  go_ret
  exact ⟨rfl, rfl⟩
theorem size_tmL (t : Tm) : (Try.prog.info? 27).map (·.size) = some (tmL t).length := sizeTm
/-- Behind Drop. -/
def DropR (w0 w : World) (B qb : Nat) (v : Value) (mb N : Nat) (c : Int) (L : List Tm) (e : Ending) : Prop :=
  e = .returned (.int .i64 ((L.length : Int) - ((dropL c L).length : Int))) ∧ ChgR w0 w B qb v mb N (dropL c L)
/-- In the middle of Drop. -/
structure DropS (w0 w : World) (B qb : Nat) (v v1 : Value) (mb N : Nat) (c : Int) (L : List Tm) (i : Nat) : Prop where
  g : ∃ v', Chg w0 w B qb v v' mb (N + 1000 * i) (dropI c i L) ∧ (L ≠ [] → ∀ k, QB qb v' mb k → ∀ g, blockOf v1 = some g → ¬ g = k)
  t : TmV w v1 L
theorem DropS.still {w0 w w' : World} {B qb mb N i : Nat} {v v1 : Value} {c : Int} {L : List Tm} (s : DropS w0 w B qb v v1 mb N c L i) (hM : Mod (fun _ => False) w w') : DropS w0 w' B qb v v1 mb N c L i := by
  obtain ⟨⟨v', h1, h2⟩, h3⟩ := s
  exact ⟨⟨v', h1.still hM, h2⟩, h3.kept hM⟩
set_option maxHeartbeats 4000000 in
theorem drop_any {w : World} {B qb mb N : Nat} {v : Value} {L : List Tm} (c : Int) (q : QOk w B qb v mb N L) (hN : N ≤ 1000000000) (hB : B ≤ w.heap.size) :
    Calls Try.prog 13 #[.pointer (some ⟨qb, 0, none⟩), .int .i64 c] w fun e w' => DropR w w' B qb v mb (N + 200000) c L e := by
  have HQ := Lib.hid q
  have HB := Lib.hid (And.intro hB hN)
  have HL := Lib.hid q.l
  have HK := Lib.hid q.k
  have hblk : ∀ k, QB qb v mb k → k < w.heap.size := fun k hk => (q.blocks k hk).2
  have HBL := Lib.hid hblk
  clear q hB hN hblk
  go_enter Try.func13, Try.ntmps13
  go_wp2_with (first | (go_at_call 15; refine (list_any HQ.out).mono ?_; rintro e w1 ⟨v1, rfl, ht1, hM1, hg1⟩; have HT1 := Lib.hid (And.intro ht1 (And.intro hM1 hg1)); obtain ⟨a1, c1, rfl, -⟩ := ht1.val; clear ht1 hM1 hg1) | fail)
  obtain ⟨m, hm⟩ : ∃ m, m = L.length := ⟨_, rfl⟩
  have hm200 : (m : Int) ≤ 200 := by have := HL.out.n; omega
  have HM := Lib.hid hm
  rw [← hm] at HT1 ⊢
  clear hm
  go_loopw [5, 11] (fun s5 s11 wr => ∃ (i n : Nat), s5 = .int .i64 (n : Int) ∧ s11 = .int .i64 (i : Int) ∧ i ≤ m ∧ n + (dropI c i L).length = m ∧ Hid (DropS w wr B qb v (.slice a1 m c1) mb N c L i)) (fun _ s11 _ => m - (match s11 with | .int _ z => z.toNat | _ => 0))
  case atStart =>
    refine ⟨0, 0, rfl, rfl, Nat.zero_le _, by rw [dropI_0, HM.out]; omega, ⟨⟨v, ⟨?_, HT1.out.2.1.mono (fun _ _ h => h.elim), fun _ h => .inl h⟩, fun hne k hk g hg e => ?_⟩, HT1.out.1⟩⟩
    · rw [dropI_0]
      exact (HQ.out.still HT1.out.2.1).more (by omega)
    · have h1 := HT1.out.2.2 g hne hg
      have h2 := HBL.out k hk
      omega
  case round =>
    obtain ⟨i, n, rfl, rfl, hi, hn, HS⟩ := hrel
    have i0 : (0 : Int) ≤ (i : Int) := by omega
    have n0 : (0 : Int) ≤ (n : Int) := by omega
    have n1 : (n : Int) ≤ 200 := by omega
    have HN := Lib.hid (And.intro hi hn)
    by_cases hlt : i < m
    · have i1 : (i : Int) < (m : Int) := by omega
      obtain ⟨x, hx⟩ : ∃ x, L[i]? = some x := ⟨_, List.getElem?_eq_getElem (by have := HM.out; omega)⟩
      obtain ⟨b, off, cap, hv1, hr⟩ := HS.out.t.at hx
      simp only [Value.slice.injEq] at hv1
      obtain ⟨rfl, -, -⟩ := hv1
      have HR := Lib.hid hr
      have HX := Lib.hid hx
      have HKX : Hid (okK (keyT x)) := Lib.hid (HK.out x (List.mem_of_getElem? hx))
      have hne : L ≠ [] := by intro e; rw [e] at hx; simp at hx
      have HNE := Lib.hid hne
      clear hr hx hne hlt hi hn
      by_cases hc : x.c = c
      · have HC := Lib.hid hc
        have hq : (x.c == c) = true := by simp [hc]
        have hst := dropI_same HL.out HX.out hc
        have HST := Lib.hid hst
        obtain ⟨v', hchg, hdis⟩ := HS.out.g
        have HCH := Lib.hid (And.intro hchg hdis)
        have HNN : Hid (N + 1000 * i + 1000 < maxLen) := Lib.hid (by unfold maxLen; have := HB.out.2; have := HN.out.1; omega)
        have hkc : okK (c, x.k) := by have := HKX.out; unfold keyT at this; rw [hc] at this; exact this
        have HKC := Lib.hid hkc
        clear hchg hdis hst hkc hc
        go_wp2_with (first
          | ((with_reducible refine wpList_load_mid ?_ 27 (.tmp 13) ?_ b (off + i * 3) ?_ (tmL x) _ HR.out Try.underlying27 ?_ (size_tmL x) ?_); (· exact rfl); (· exact rfl); (· exact rfl); (· exact rfl))
          | ((with_reducible refine wpList_store_blk ?_ 27 (.tmp 7) (.tmp 14) ?_ wr.heap.size ?_ _ (tmA x) ?_ 27 (Blk.new wr #[.int .u64 0, .int .i64 0, .int .i64 0] 27) (size_tm x) ?_ (tmA_one x) ?_); (· exact rfl); (· exact rfl); (· exact rfl); (· exact rfl); (· exact rfl); intro w9 hB9 hM9; have hM99 : Mod (fun _ => False) wr w9 := ((Mod.refl _ _).alloc _).trans' hM9 (fun k hk e => by omega); have HM9 := Lib.hid hM99; have e1 : w9.cell? ⟨wr.heap.size, 1, none⟩ = some (.int .i64 x.c) := hB9.cellAt 1 rfl; have e2 : w9.cell? ⟨wr.heap.size, 2, none⟩ = some (.int .i64 x.k) := hB9.cellAt 2 rfl; clear hB9 hM9 hM99)
          | (go_at_call 12; refine (cancel_any c x.k (HCH.out.1.still HM9.out).q HKC.out HNN.out (Nat.le_trans HB.out.1 (HCH.out.1.still HM9.out).m.size)).mono ?_; rintro e w10 ⟨he, hch⟩; rw [HST.out.1] at he; subst he; have HCR := Lib.hid hch; clear hch)
          | fail)
        go_roundw
        case rel =>
          obtain ⟨v2, h2⟩ := Chg.of HCR.out
          have h3 := (HCH.out.1.still HM9.out).trans h2
          rw [HST.out.2] at h3
          have hd := del_len (HCH.out.1.q.l) HST.out.1
          rw [HST.out.2] at hd
          refine ⟨i + 1, n + 1, by go_num, by go_num, by omega, by have := HN.out.2; omega, ⟨⟨v2, ⟨h3.q.more (by omega), h3.m, h3.o⟩, fun hne k hk g hg e => ?_⟩, ?_⟩⟩
          · rcases h2.qb k hk with e1 | e1
            · exact HCH.out.2 hne k e1 g hg e
            · have hgl := Sl.lt (HS.out.t.kept HM9.out) (fun e => by have := tmL_len L; rw [e] at this; simp at this; have := HM.out; omega) g hg
              omega
          · refine Mod.sl h2.m (HS.out.t.kept HM9.out) (fun _ g hg e => ?_)
            exact HCH.out.2 HNE.out g e g hg rfl
        case measure => simp; omega
      · have hq : (x.c == c) = false := by simpa using hc
        have hst := dropI_other HX.out hc
        have HST := Lib.hid hst
        clear hst hc
        go_wp2_with (first
          | ((with_reducible refine wpList_load_mid ?_ 27 (.tmp 13) ?_ b (off + i * 3) ?_ (tmL x) _ HR.out Try.underlying27 ?_ (size_tmL x) ?_); (· exact rfl); (· exact rfl); (· exact rfl); (· exact rfl))
          | ((with_reducible refine wpList_store_blk ?_ 27 (.tmp 7) (.tmp 14) ?_ wr.heap.size ?_ _ (tmA x) ?_ 27 (Blk.new wr #[.int .u64 0, .int .i64 0, .int .i64 0] 27) (size_tm x) ?_ (tmA_one x) ?_); (· exact rfl); (· exact rfl); (· exact rfl); (· exact rfl); (· exact rfl); intro w9 hB9 hM9; have hM99 : Mod (fun _ => False) wr w9 := ((Mod.refl _ _).alloc _).trans' hM9 (fun k hk e => by omega); have HM9 := Lib.hid hM99; have e1 : w9.cell? ⟨wr.heap.size, 1, none⟩ = some (.int .i64 x.c) := hB9.cellAt 1 rfl; have e2 : w9.cell? ⟨wr.heap.size, 2, none⟩ = some (.int .i64 x.k) := hB9.cellAt 2 rfl; clear hB9 hM9 hM99)
          | fail)
        go_roundw
        case rel =>
          have h1 := HS.out.still HM9.out
          refine ⟨i + 1, n, rfl, by go_num, by omega, by rw [HST.out]; exact HN.out.2, ⟨?_, h1.t⟩⟩
          obtain ⟨v', h2, h3⟩ := h1.g
          rw [HST.out]
          exact ⟨v', ⟨h2.q.more (by omega), h2.m, h2.o⟩, h3⟩
        case measure => simp; omega
    · have i1 : ¬ (i : Int) < (m : Int) := by omega
      obtain rfl : i = m := by omega
      clear hlt
      go_wp2_with fail
      go_ret
      obtain ⟨v', h2, h3⟩ := HS.out.g
      have e1 : dropI c i L = dropL c L := by rw [HM.out, dropI_all]
      rw [e1] at h2
      have hn2 := HN.out.2
      rw [e1] at hn2
      refine ⟨?_, v', h2.q.more (by have := HL.out.n; have := HM.out; omega), h2.m, h2.o⟩
      rw [← HM.out, show (i : Int) - ((dropL c L).length : Int) = (n : Int) by omega]
      rfl
end Go.Proofs.Ytodcadcapmhgfaa
