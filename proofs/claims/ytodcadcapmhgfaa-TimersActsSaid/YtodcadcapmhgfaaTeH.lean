/- A queue, told by its timers in order: how many there are, the next time, when one is due; the program's. -/
import Derived.Test.YtodcadcapmhgfaaTeG
import Derived.Maps.AppendAt
namespace Go.Proofs.Ytodcadcapmhgfaa
open Go.RowKit

/-- A queue in memory has just these timers. -/
structure QOk (w : World) (B qb : Nat) (v : Value) (mb N : Nat) (L : List Tm) : Prop where
  ex : ∃ n h f, QM w B qb v mb n h f ∧ Cons h f ∧ Heap h ∧ h.Perm L ∧ n ≤ N
  l : QL L
  k : OkAll L
theorem QOk.still {w w' : World} {B qb mb N : Nat} {v : Value} {L : List Tm} (q : QOk w B qb v mb N L) (hM : Mod (fun _ => False) w w') : QOk w' B qb v mb N L := by
  obtain ⟨⟨n, h, f, h1, h2⟩, hl, hk⟩ := q
  exact ⟨⟨n, h, f, h1.still hM, h2⟩, hl, hk⟩
theorem QOk.kept {S : Nat → Prop} {w w' : World} {B qb mb N : Nat} {v : Value} {L : List Tm} (q : QOk w B qb v mb N L) (hM : Mod S w w') (hS : ∀ k, QB qb v mb k → ¬ S k) : QOk w' B qb v mb N L := by
  obtain ⟨⟨n, h, f, h1, h2⟩, hl, hk⟩ := q
  exact ⟨⟨n, h, f, h1.kept hM (fun g hg => hS g (Or.inr (Or.inl hg))) (hS qb (Or.inl rfl)) (hS mb (Or.inr (Or.inr rfl))), h2⟩, hl, hk⟩
theorem QOk.more {w : World} {B qb mb N N' : Nat} {v : Value} {L : List Tm} (q : QOk w B qb v mb N L) (h : N ≤ N') : QOk w B qb v mb N' L := by
  obtain ⟨⟨n, h, f, h1, h2, h3, h4, h5⟩, hl, hk⟩ := q
  exact ⟨⟨n, h, f, h1, h2, h3, h4, by omega⟩, hl, hk⟩
theorem QOk.blocks {w : World} {B qb mb N : Nat} {v : Value} {L : List Tm} (q : QOk w B qb v mb N L) : ∀ k, QB qb v mb k → B ≤ k ∧ k < w.heap.size := by
  obtain ⟨⟨n, h, f, h1, h2⟩, hl, hk⟩ := q
  rintro k (rfl | hk | rfl)
  · exact ⟨h1.bq, h1.blk.lt⟩
  · exact World.ownsRow.lt h1.own k hk
  · exact ⟨h1.bm, h1.map.lt⟩
theorem atN_eq {c k : Int} {L : List Tm} {a : Tm} (h : UniqK L) (ha : a ∈ L) (hk : keyT a = (c, k)) : atN c k L = a.t := at_mem h ha hk
/-- What the map tells of a key. -/
theorem key_look {h L : List Tm} {f : Int × Int → Option Value} (c : Cons h f) (hp : h.Perm L) (p : Int × Int) :
    (hasK p.1 p.2 L = false ∧ f p = none) ∨ ∃ (i : Nat) (a : Tm), hasK p.1 p.2 L = true ∧ f p = some (.int .i64 (i : Int)) ∧ h[i]? = some a ∧ keyT a = p ∧ a ∈ L := by
  cases hh : hasK p.1 p.2 L with
  | false => exact .inl ⟨rfl, c.no p (fun t ht e => has_no.1 hh t (hp.mem_iff.1 ht) e)⟩
  | true =>
    obtain ⟨a, ha, e⟩ := has_iff.1 hh
    obtain ⟨i, hi⟩ := List.getElem?_of_mem (hp.mem_iff.2 ha)
    refine .inr ⟨i, a, rfl, ?_, hi, e, ha⟩
    rw [← show keyT a = p from e]
    exact c.yes i a hi
theorem head_eq {h : List Tm} {x a : Tm} {L : List Tm} (hh : Heap h) (hp : h.Perm (x :: L)) (hs : SortedT (x :: L)) (ha : h[0]? = some a) : a = x := by
  have hx : x ∈ h := hp.mem_iff.2 (by simp)
  obtain ⟨j, hj⟩ := List.getElem?_of_mem hx
  have h1 := hh.top ha j x hj
  have h2 : a ∈ x :: L := hp.mem_iff.1 (List.mem_of_getElem? ha)
  rcases List.mem_cons.1 h2 with e | e
  · exact e
  · have := hs.1 a e
    rw [this] at h1
    cases h1
set_option maxHeartbeats 4000000 in
theorem len_any {w : World} {B qb mb N : Nat} {v : Value} {L : List Tm} (q : QOk w B qb v mb N L) :
    Calls Try.prog 14 #[.pointer (some ⟨qb, 0, none⟩)] w fun e w' => w = w' ∧ e = .returned (.int .i64 (L.length : Int)) := by
  obtain ⟨⟨n, h, f, h1, h2, h3, h4, h5⟩, hl, hk⟩ := q
  have c0 : w.cell? ⟨qb, 0, none⟩ = some v := h1.blk.cellAt 0 rfl
  obtain ⟨a, cap, rfl, -⟩ := Sl.val (Sl.ofOwn h1.own)
  have HL := Lib.hid h4.length_eq
  clear h1 h2 h3 h4 h5 hl hk
  go_enter Try.func14, Try.ntmps14
  go_wp2_with fail
  go_ret
  exact ⟨rfl, by rw [HL.out]; rfl⟩
theorem len_nil (w : World) : Calls Try.prog 14 #[.pointer none] w fun e w' => w = w' ∧ e = .returned (.int .i64 0) := by
  go_enter Try.func14, Try.ntmps14
  go_wp2_with fail
  go_ret
  exact ⟨rfl, rfl⟩
def neverZ : Int := 18446744073709551615
theorem never_nat : ((neverN : Nat) : Int) = neverZ := rfl
theorem next_nil (w : World) : Calls Try.prog 16 #[.pointer none] w fun e w' => w = w' ∧ e = .returned (.int .u64 (neverN : Nat)) := by
  go_enter Try.func16, Try.ntmps16
  go_wp2_with (first | (go_at_call 14; refine (len_nil _).mono ?_; rintro e w1 ⟨rfl, rfl⟩) | fail)
  go_ret
  exact ⟨rfl, rfl⟩
set_option maxHeartbeats 4000000 in
theorem next_any {w : World} {B qb mb N : Nat} {v : Value} {L : List Tm} (q : QOk w B qb v mb N L) :
    Calls Try.prog 16 #[.pointer (some ⟨qb, 0, none⟩)] w fun e w' => w = w' ∧ e = .returned (.int .u64 (nextN L : Nat)) := by
  have HQ := Lib.hid q
  obtain ⟨⟨n, h, f, h1, h2, h3, h4, h5⟩, hl, hk⟩ := q
  cases L with
  | nil =>
    clear h1 h2 h3 h4 h5 hl hk
    go_enter Try.func16, Try.ntmps16
    go_wp2_with (first | (go_at_call 14; refine (len_any HQ.out).mono ?_; rintro e w1 ⟨rfl, rfl⟩) | fail)
    go_ret
    exact ⟨rfl, rfl⟩
  | cons x L =>
    have hlen := h4.length_eq
    obtain ⟨a, ha⟩ : ∃ a, h[0]? = some a := ⟨_, List.getElem?_eq_getElem (by rw [hlen]; simp)⟩
    obtain rfl := head_eq h3 h4 hl.s ha
    obtain ⟨g, cap, hv, hcap, -, hra⟩ := h1.own.at ha
    have c0 : w.cell? ⟨qb, 0, none⟩ = some v := h1.blk.cellAt 0 rfl
    have c1 : w.cell? ⟨g, 0, none⟩ = some (.int .u64 (a.t : Int)) := by
      have := hra 0 _ rfl
      simpa using this
    subst hv
    obtain ⟨m, hm⟩ : ∃ m, m = h.length := ⟨_, rfl⟩
    rw [← hm] at c0
    have m0 : (0 : Int) < (m : Int) := by rw [hm, hlen]; simp
    have mc : 0 < m := by rw [hm, hlen]; simp
    have hE : Hid ((L.length : Int) + 1 = (m : Int)) := Lib.hid (by rw [hm, hlen]; simp)
    clear hm hlen ha hcap hra h1 h2 h3 h4 h5 hl hk
    go_enter Try.func16, Try.ntmps16
    go_wp2_with (first | (go_at_call 14; refine (len_any HQ.out).mono ?_; rintro e w1 ⟨rfl, rfl⟩; rw [List.length_cons, Int.natCast_add, Int.natCast_one, hE.out]) | fail)
    go_ret
    exact ⟨rfl, rfl⟩
theorem zero_int (w : World) : (zeroValue 3).run Try.prog w = .ok (.int .i64 0) w := by kernel_rfl
theorem at_nil (w : World) (c k : Int) : Calls Try.prog 17 #[.pointer none, .int .i64 c, .int .i64 k] w fun e w' => w = w' ∧ e = .returned (.int .u64 (neverN : Nat)) := by
  go_enter Try.func17, Try.ntmps17
  go_wp2_with fail
  go_ret
  exact ⟨rfl, rfl⟩
set_option maxHeartbeats 4000000 in
theorem at_any {w : World} {B qb mb N : Nat} {v : Value} {L : List Tm} (c k : Int) (q : QOk w B qb v mb N L) (hck : okK (c, k)) :
    Calls Try.prog 17 #[.pointer (some ⟨qb, 0, none⟩), .int .i64 c, .int .i64 k] w fun e w' => w = w' ∧ e = .returned (.int .u64 (atN c k L : Nat)) := by
  have HK := Lib.hid hck
  obtain ⟨⟨n, h, f, h1, h2, h3, h4, h5⟩, hl, hk⟩ := q
  have c0 : w.cell? ⟨qb, 0, none⟩ = some v := h1.blk.cellAt 0 rfl
  have c1 : w.cell? ⟨qb, 1, none⟩ = some (.map (some mb)) := h1.blk.cellAt 1 rfl
  have HM := Lib.hid h1.map
  rcases key_look h2 h4 (c, k) with ⟨hh, hf⟩ | ⟨i, a, hh, hf, hi, hkey, hin⟩
  · have HF : Hid ((f (c, k)).getD (.int .i64 0) = .int .i64 0 ∧ (f (c, k)).isSome = false) := Lib.hid (by rw [hf]; exact ⟨rfl, rfl⟩)
    have HE : Hid (atN c k L = neverN) := Lib.hid (at_none (has_no.1 hh))
    clear h1 h2 h3 h4 h5 hl hk hh hf hck
    go_enter Try.func17, Try.ntmps17
    go_wp2_with (first
      | ((with_reducible refine wpList_wlook ?_ (.tmp 15) (.tmp 18) ?_ Try.underlying49 (p := (c, k)) (zero_int w) ?_ HM.out ?_ HK.out ?_); (· exact rfl); (· exact rfl); (· exact rfl); (· exact rfl); rw [HF.out.1, HF.out.2])
      | fail)
    go_ret
    exact ⟨rfl, by rw [HE.out]; rfl⟩
  · obtain ⟨g, cap, hv, hcap, -, hra⟩ := h1.own.at hi
    have c2 : w.cell? ⟨g, i * 3, none⟩ = some (.int .u64 (a.t : Int)) := by
      have := hra 0 _ rfl
      simpa using this
    have hil := (List.getElem?_eq_some_iff.1 hi).1
    have i0 : (0 : Int) ≤ (i : Int) := by omega
    have i1 : (i : Int) < (h.length : Int) := by omega
    have HF : Hid ((f (c, k)).getD (.int .i64 0) = .int .i64 i ∧ (f (c, k)).isSome = true) := Lib.hid (by rw [hf]; exact ⟨rfl, rfl⟩)
    have HE : Hid (atN c k L = a.t) := Lib.hid (at_mem hl.u hin hkey)
    subst hv
    clear h1 h2 h3 h4 h5 hl hk hh hf hck hcap hra hi hkey hin
    go_enter Try.func17, Try.ntmps17
    go_wp2_with (first
      | ((with_reducible refine wpList_wlook ?_ (.tmp 15) (.tmp 18) ?_ Try.underlying49 (p := (c, k)) (zero_int w) ?_ HM.out ?_ HK.out ?_); (· exact rfl); (· exact rfl); (· exact rfl); (· exact rfl); rw [HF.out.1, HF.out.2])
      | fail)
    go_ret
    exact ⟨rfl, by rw [HE.out]; rfl⟩
theorem cancel_nil (w : World) (c k : Int) : Calls Try.prog 12 #[.pointer none, .int .i64 c, .int .i64 k] w fun e w' => w = w' ∧ e = .returned (.bool false) := by
  go_enter Try.func12, Try.ntmps12
  go_wp2_with fail
  go_ret
  exact ⟨rfl, rfl⟩
/-- Behind a change of a queue. -/
def ChgR (w0 w : World) (B qb : Nat) (v : Value) (mb N : Nat) (L : List Tm) : Prop :=
  ∃ v', QOk w B qb v' mb N L ∧ Mod (QB qb v mb) w0 w ∧ (∀ k, v'.ownBlock = some k → v.ownBlock = some k ∨ w0.heap.size ≤ k)
theorem QOk.chg {w : World} {B qb mb N : Nat} {v : Value} {L : List Tm} (q : QOk w B qb v mb N L) : ChgR w w B qb v mb N L := ⟨v, q, Mod.refl _ _, fun _ h => .inl h⟩
theorem cut_ok {w0 w : World} {B qb mb N : Nat} {v : Value} {L h : List Tm} {a : Tm} {e : Ending} (hp : h.Perm L) (hl : QL L) (hk : OkAll L) (ha : a ∈ L) (h : CutR w0 w B qb v mb N h a e) : e = .returned (.agg (tmA a)) ∧ ChgR w0 w B qb v mb N (delT a.c a.k L) := by
  obtain ⟨n', v', h', f', he, hq, hc, hh, hperm, hown, hM, hn⟩ := h
  refine ⟨he, v', ⟨⟨n', h', f', hq, hc, hh, ?_, hn⟩, hl.del _ _, fun t ht => hk t (delT_mem.1 ht).1⟩, hM, fun k hk' => .inl (by rw [← hown]; exact hk')⟩
  exact List.Perm.cons_inv ((hperm.trans hp).trans (del_perm hl.s hl.u ha).symm)
set_option maxHeartbeats 4000000 in
theorem cancel_any {w : World} {B qb mb N : Nat} {v : Value} {L : List Tm} (c k : Int) (q : QOk w B qb v mb N L) (hck : okK (c, k)) (hN : N + 1000 < maxLen) (hB : B ≤ w.heap.size) :
    Calls Try.prog 12 #[.pointer (some ⟨qb, 0, none⟩), .int .i64 c, .int .i64 k] w fun e w' => e = .returned (.bool (hasK c k L)) ∧ ChgR w w' B qb v mb (N + 1000) (delT c k L) := by
  have HK := Lib.hid hck
  have HQ0 := Lib.hid q
  obtain ⟨⟨n, h, f, h1, h2, h3, h4, h5⟩, hl, hk⟩ := q
  have c1 : w.cell? ⟨qb, 1, none⟩ = some (.map (some mb)) := h1.blk.cellAt 1 rfl
  have HM := Lib.hid h1.map
  rcases key_look h2 h4 (c, k) with ⟨hh, hf⟩ | ⟨i, a, hh, hf, hi, hkey, hin⟩
  · have HF : Hid ((f (c, k)).getD (.int .i64 0) = .int .i64 0 ∧ (f (c, k)).isSome = false) := Lib.hid (by rw [hf]; exact ⟨rfl, rfl⟩)
    have HE : Hid (delT c k L = L ∧ hasK c k L = false) := Lib.hid ⟨delT_none (has_no.1 hh), hh⟩
    clear h1 h2 h3 h4 h5 hl hk hh hf hck hN hB
    go_enter Try.func12, Try.ntmps12
    go_wp2_with (first
      | ((with_reducible refine wpList_wlook ?_ (.tmp 15) (.tmp 18) ?_ Try.underlying49 (p := (c, k)) (zero_int w) ?_ HM.out ?_ HK.out ?_); (· exact rfl); (· exact rfl); (· exact rfl); (· exact rfl); rw [HF.out.1, HF.out.2])
      | fail)
    go_ret
    exact ⟨by rw [HE.out.2]; rfl, by rw [HE.out.1]; exact (HQ0.out.more (by omega)).chg⟩
  · have HH : Hid (QM w B qb v mb n h f ∧ Cons h f ∧ h[i]? = some a ∧ h.length ≤ 200 ∧ Heap h ∧ n + 1000 < maxLen ∧ OkAll h ∧ B ≤ w.heap.size) := Lib.hid ⟨h1, h2, hi, by rw [h4.length_eq]; exact hl.n, h3, by omega, fun t ht => hk t (h4.mem_iff.1 ht), hB⟩
    have HF : Hid ((f (c, k)).getD (.int .i64 0) = .int .i64 i ∧ (f (c, k)).isSome = true) := Lib.hid (by rw [hf]; exact ⟨rfl, rfl⟩)
    have HE : Hid (hasK c k L = true ∧ h.Perm L ∧ QL L ∧ OkAll L ∧ a ∈ L ∧ n ≤ N ∧ a.c = c ∧ a.k = k) := Lib.hid ⟨hh, h4, hl, hk, hin, h5, congrArg Prod.fst hkey, congrArg Prod.snd hkey⟩
    clear h1 h2 h3 h4 h5 hl hk hh hf hck hi hkey hin hN hB
    go_enter Try.func12, Try.ntmps12
    go_wp2_with (first
      | ((with_reducible refine wpList_wlook ?_ (.tmp 15) (.tmp 18) ?_ Try.underlying49 (p := (c, k)) (zero_int w) ?_ HM.out ?_ HK.out ?_); (· exact rfl); (· exact rfl); (· exact rfl); (· exact rfl); rw [HF.out.1, HF.out.2])
      | (go_at_call 26; refine (cut_any HH.out.1 HH.out.2.1 HH.out.2.2.1 HH.out.2.2.2.1 HH.out.2.2.2.2.1 HH.out.2.2.2.2.2.1 HH.out.2.2.2.2.2.2.1 HH.out.2.2.2.2.2.2.2).mono ?_; rintro e w9 hcut; obtain ⟨rfl, hchg⟩ := cut_ok HE.out.2.1 HE.out.2.2.1 HE.out.2.2.2.1 HE.out.2.2.2.2.1 hcut; have HC := Lib.hid hchg; clear hcut hchg)
      | fail)
    go_ret
    obtain ⟨e1, -, -, -, -, e2, e3, e4⟩ := HE.out
    obtain ⟨v', hq, hM, ho⟩ := HC.out
    rw [e3, e4] at hq
    exact ⟨by rw [e1]; rfl, v', hq.more (by omega), hM, ho⟩
end Go.Proofs.Ytodcadcapmhgfaa
