/- The document's queue in memory: one cell, that holds a row of timers; what only reads. -/
import Derived.Test.YtodcadcapmhgfaaTlF
import Derived.Test.YtodcadcapmhgfaaReg
namespace Go.Proofs.Ytodcadcapmhgfaa
open Go.RowKit

structure RQ (B : Nat) (w : World) (rb : Nat) (rv : Value) (L : List Tm) : Prop where
  b : B ≤ rb
  blk : Blk w rb #[rv] 40
  val : TmV w rv L
  far : L ≠ [] → ∀ k, blockOf rv = some k → B ≤ k ∧ k ≠ rb
def RF (rb : Nat) (rv : Value) (L : List Tm) : Nat → Prop := fun k => k = rb ∨ (L ≠ [] ∧ blockOf rv = some k)
theorem flat_ne {L : List Tm} (h : L.flatMap tmL ≠ []) : L ≠ [] := by
  rintro rfl
  exact h rfl
theorem RQ.kept {S : Nat → Prop} {B : Nat} {w w' : World} {rb : Nat} {rv : Value} {L : List Tm} (q : RQ B w rb rv L) (hM : Mod S w w') (hS : ∀ k, RF rb rv L k → ¬ S k) : RQ B w' rb rv L :=
  ⟨q.b, hM.blk q.blk (hS rb (.inl rfl)), hM.sl q.val (fun hx g hg => hS g (.inr ⟨flat_ne hx, hg⟩)), q.far⟩
theorem RQ.still {B : Nat} {w w' : World} {rb : Nat} {rv : Value} {L : List Tm} (q : RQ B w rb rv L) (hM : Mod (fun _ => False) w w') : RQ B w' rb rv L := q.kept hM (fun _ _ h => h)
theorem flat_ne' {L : List Tm} (h : L ≠ []) : L.flatMap tmL ≠ [] := by
  intro e
  have := tmL_len L
  rw [e] at this
  have : L.length = 0 := by simp at this; omega
  exact h (List.eq_nil_of_length_eq_zero this)
theorem RQ.lt {B : Nat} {w : World} {rb : Nat} {rv : Value} {L : List Tm} (q : RQ B w rb rv L) : ∀ k, RF rb rv L k → B ≤ k ∧ k < w.heap.size := by
  rintro k (rfl | ⟨h1, h2⟩)
  · exact ⟨q.b, q.blk.lt⟩
  · exact ⟨(q.far h1 k h2).1, Sl.lt q.val (flat_ne' h1) k h2⟩
/-- Behind a call that may write the queue's cell. -/
def RC (B : Nat) (w w' : World) (rb : Nat) (rv : Value) (L L' : List Tm) : Prop :=
  ∃ rv', RQ B w' rb rv' L' ∧ (∀ k, RF rb rv' L' k → RF rb rv L k ∨ (w.heap.size ≤ k ∧ k < w'.heap.size)) ∧ Mod (fun k => k = rb) w w'
theorem LQ.move {W0 w w' : World} {S : Nat → Prop} {qb mb N : Nat} {L : List Tm} {F F' : Nat → Prop} (q : LQ W0 w qb mb N L F) (hM : Mod S w w') (hS : ∀ k, S k → F k) (hW : ∀ k, S k → W0.heap.size ≤ k) (hF : ∀ k, F' k → F k ∨ (w.heap.size ≤ k ∧ k < w'.heap.size)) : LQ W0 w' qb mb N L F' := by
  obtain ⟨⟨v, h, h1⟩, h2, h3⟩ := q
  refine ⟨⟨v, h.kept hM (fun k hk hs => h1 k hk (hS k hs)), fun k hk hf => ?_⟩, h2.trans' hM (fun k hk hs => by have := hW k hs; omega), fun k hk => ?_⟩
  · rcases hF k hf with e | e
    · exact h1 k hk e
    · have := (h.blocks k hk).2
      omega
  · rcases hF k hk with e | e
    · exact Nat.lt_of_lt_of_le (h3 k e) hM.size
    · exact e.2
theorem TmV.drop {w : World} {a : Option Addr} {n cap k : Nat} {L : List Tm} (h : TmV w (.slice a n cap) L) (hn : n = L.length) (hk : k ≤ n) : TmV w (sliced a k n cap 3) (L.drop k) := by
  subst hn
  obtain ⟨hl, a', cap', he, h2, h3, h4, h5⟩ := h
  simp only [Value.slice.injEq] at he
  obtain ⟨rfl, -, rfl⟩ := he
  have hd : (L.drop k).flatMap tmL = (L.flatMap tmL).drop (k * 3) := by
    conv => rhs; rw [← List.take_append_drop k L, List.flatMap_append]
    rw [List.drop_left' (by rw [tmL_len, List.length_take]; omega)]
  refine ⟨by rw [tmL_len], if cap = k then a else a.map (·.add (k * 3)), cap - k, by unfold sliced; rw [List.length_drop], by rw [List.length_drop]; omega, by omega, ?_, ?_⟩
  · intro e
    split at e
    · rename_i hc; omega
    · rw [Option.map_eq_none_iff] at e
      have := h4 e
      omega
  · intro j u hu
    rw [hd, List.getElem?_drop] at hu
    obtain ⟨b, off, rfl, hc⟩ := h5 _ u hu
    have hjl := (List.getElem?_eq_some_iff.1 hu).1
    rw [tmL_len] at hjl
    rw [if_neg (by omega)]
    exact ⟨b, off + k * 3, by rw [Option.map_some, Addr.add_lit], by rw [Nat.add_assoc]; exact hc⟩
theorem TmV.take {w : World} {a : Option Addr} {n cap k : Nat} {L : List Tm} (h : TmV w (.slice a n cap) L) (hn : n = L.length) (hk : k ≤ n) : TmV w (sliced a 0 k cap 3) (L.take k) := by
  subst hn
  obtain ⟨hl, a', cap', he, h2, h3, h4, h5⟩ := h
  simp only [Value.slice.injEq] at he
  obtain ⟨rfl, -, rfl⟩ := he
  have hd : (L.take k).flatMap tmL = (L.flatMap tmL).take (k * 3) := by
    conv => rhs; rw [← List.take_append_drop k L, List.flatMap_append]
    rw [List.take_left' (by rw [tmL_len, List.length_take]; omega)]
  refine ⟨by rw [tmL_len], if cap = 0 then a else a.map (·.add (0 * 3)), cap - 0, ?_, by rw [List.length_take]; omega, by omega, ?_, ?_⟩
  · unfold sliced
    rw [List.length_take, Nat.min_eq_left hk]
    rfl
  · intro e
    split at e
    · rename_i hc; omega
    · rw [Option.map_eq_none_iff] at e
      have := h4 e
      omega
  · intro j u hu
    rw [hd] at hu
    have hjl := (List.getElem?_eq_some_iff.1 hu).1
    rw [List.length_take, tmL_len] at hjl
    rw [List.getElem?_take_of_lt (by omega)] at hu
    obtain ⟨b, off, rfl, hc⟩ := h5 _ u hu
    refine ⟨b, off, ?_, hc⟩
    split
    · rfl
    · simp [Addr.add]
theorem block_sliced (a : Option Addr) (k n cap s : Nat) : ∀ g, blockOf (sliced a k n cap s) = some g → ∀ m c, blockOf (.slice a m c) = some g := by
  intro g hg m c
  cases a with
  | none => unfold sliced at hg; split at hg <;> simp [blockOf] at hg
  | some p =>
    unfold sliced at hg
    split at hg
    · exact hg
    · simp only [Option.map_some, blockOf, Option.some.injEq] at hg ⊢
      rw [← hg]
      unfold Addr.add
      split <;> rfl
set_option maxHeartbeats 4000000 in
theorem rnext_any {B : Nat} {w : World} {rb : Nat} {rv : Value} {L : List Tm} (q : RQ B w rb rv L) :
    Calls Try.prog 23 #[.pointer (some ⟨rb, 0, none⟩)] w fun e w' => w = w' ∧ e = .returned (.int .u64 (nextN L : Nat)) := by
  obtain ⟨a, cap, rfl, hcap, -⟩ := q.val.val
  have c0 : w.cell? ⟨rb, 0, none⟩ = some (.slice a L.length cap) := q.blk.cellAt 0 rfl
  cases L with
  | nil =>
    clear q hcap
    go_enter Try.func23, Try.ntmps23
    go_wp2_with fail
    go_ret
    exact ⟨rfl, rfl⟩
  | cons x L =>
    obtain ⟨b, off, cap2, hv, hr⟩ := q.val.at (i := 0) (t := x) rfl
    simp only [Value.slice.injEq] at hv
    obtain ⟨rfl, -, rfl⟩ := hv
    have c1 : w.cell? ⟨b, off, none⟩ = some (.int .u64 (x.t : Int)) := by simpa using hr 0 _ rfl
    obtain ⟨m, hm⟩ : ∃ m, m = (x :: L).length := ⟨_, rfl⟩
    rw [← hm] at c0 hcap
    have m0 : (0 : Int) < (m : Int) := by rw [hm]; simp
    have m1 : ((m : Int) == 0) = false := by simp; omega
    clear q hr hm hcap
    go_enter Try.func23, Try.ntmps23
    go_wp2_with fail
    go_ret
    exact ⟨rfl, rfl⟩
theorem at_hit {c k : Int} {L : List Tm} {i : Nat} {x : Tm} (hq : QL L) (hx : L[i]? = some x) (h1 : x.c = c) (h2 : x.k = k) : atN c k L = x.t := at_mem hq.u (List.mem_of_getElem? hx) (by unfold keyT; rw [h1, h2])
def Away (c k : Int) (L : List Tm) (i : Nat) : Prop := ∀ j x, j < i → L[j]? = some x → keyT x ≠ (c, k)
theorem Away.zero (c k : Int) (L : List Tm) : Away c k L 0 := fun _ _ h => by omega
theorem Away.next {c k : Int} {L : List Tm} {i : Nat} {x : Tm} (h : Away c k L i) (hx : L[i]? = some x) (hn : x.c ≠ c ∨ x.k ≠ k) : Away c k L (i + 1) := by
  intro j y hj hy
  by_cases hji : j = i
  · subst hji
    rw [hx] at hy
    cases hy
    intro e
    unfold keyT at e
    simp only [Prod.mk.injEq] at e
    rcases hn with e1 | e1
    · exact e1 e.1
    · exact e1 e.2
  · exact h j y (by omega) hy
theorem Away.all {c k : Int} {L : List Tm} {i : Nat} (h : Away c k L i) (hi : L.length ≤ i) : ∀ a ∈ L, keyT a ≠ (c, k) := by
  intro a ha
  obtain ⟨j, hj⟩ := List.getElem?_of_mem ha
  exact h j a (by have := (List.getElem?_eq_some_iff.1 hj).1; omega) hj
set_option maxHeartbeats 4000000 in
theorem rat_any {B : Nat} {w : World} {rb : Nat} {rv : Value} {L : List Tm} (c k : Int) (q : RQ B w rb rv L) (hq : QL L) :
    Calls Try.prog 24 #[.pointer (some ⟨rb, 0, none⟩), .int .i64 c, .int .i64 k] w fun e w' => w = w' ∧ e = .returned (.int .u64 (atN c k L : Nat)) := by
  obtain ⟨a, cap, rfl, hcap, -⟩ := q.val.val
  have c0 : w.cell? ⟨rb, 0, none⟩ = some (.slice a L.length cap) := q.blk.cellAt 0 rfl
  have HQ := Lib.hid q
  have HQL := Lib.hid hq
  obtain ⟨m, hm⟩ : ∃ m, m = L.length := ⟨_, rfl⟩
  rw [← hm] at c0 HQ
  have HM := Lib.hid (And.intro hm hq.n)
  have m1 : (m : Int) ≤ 200 := by have := hq.n; omega
  clear q hq hcap hm
  go_enter Try.func24, Try.ntmps24
  go_wp2_with fail
  go_loopw [7] (fun s7 wr => ∃ (i : Nat), s7 = .int .i64 (i : Int) ∧ i ≤ m ∧ w = wr ∧ Hid (Away c k L i)) (fun s7 _ => m - (match s7 with | .int _ z => z.toNat | _ => 0))
  case atStart => exact ⟨0, rfl, Nat.zero_le _, rfl, Lib.hid (Away.zero c k L)⟩
  case round =>
    obtain ⟨i, rfl, hi, rfl, HS⟩ := hrel
    have i0 : (0 : Int) ≤ (i : Int) := by omega
    have HI := Lib.hid hi
    by_cases hlt : i < m
    · have i1 : (i : Int) < (m : Int) := by omega
      obtain ⟨x, hx⟩ : ∃ x, L[i]? = some x := ⟨_, List.getElem?_eq_getElem (by have := HM.out.1; omega)⟩
      obtain ⟨b, off, cap2, hv, hr⟩ := HQ.out.val.at hx
      simp only [Value.slice.injEq] at hv
      obtain ⟨rfl, -, rfl⟩ := hv
      have d0 : w.cell? ⟨b, off + i * 3, none⟩ = some (.int .u64 (x.t : Int)) := hr 0 _ rfl
      have d1 : w.cell? ⟨b, off + i * 3 + 1, none⟩ = some (.int .i64 x.c) := hr 1 _ rfl
      have d2 : w.cell? ⟨b, off + i * 3 + 2, none⟩ = some (.int .i64 x.k) := hr 2 _ rfl
      have HX := Lib.hid hx
      have HII := Lib.hid hlt
      clear hr hx hi hlt
      by_cases h1 : x.c = c
      · by_cases h2 : x.k = k
        · have HE : Hid (atN c k L = x.t) := Lib.hid (at_hit HQL.out HX.out h1 h2)
          have q1 : (x.c == c) = true := by simp [h1]
          have q2 : (x.k == k) = true := by simp [h2]
          clear h1 h2
          go_wp2_with fail
          go_ret
          exact ⟨rfl, by rw [HE.out]; rfl⟩
        · have HE := Lib.hid (HS.out.next HX.out (.inr h2))
          have q1 : (x.c == c) = true := by simp [h1]
          have q2 : (x.k == k) = false := by simp [h2]
          clear h1 h2
          go_wp2_with fail
          go_roundw
          case rel => exact ⟨i + 1, by go_num, by have := HII.out; omega, trivial, HE⟩
          case measure => have := HII.out; simp; omega
      · have HE := Lib.hid (HS.out.next HX.out (.inl h1))
        have q1 : (x.c == c) = false := by simp [h1]
        clear h1
        go_wp2_with fail
        go_roundw
        case rel => exact ⟨i + 1, by go_num, by have := HII.out; omega, trivial, HE⟩
        case measure => have := HII.out; simp; omega
    · have i1 : ¬ (i : Int) < (m : Int) := by omega
      have HE : Hid (((atN c k L : Nat) : Int) = neverZ) := Lib.hid (by rw [at_none (HS.out.all (by have := HM.out.1; omega))]; exact never_nat)
      clear hlt hi
      go_wp2_with fail
      go_ret
      exact ⟨rfl, by rw [HE.out]; rfl⟩
end Go.Proofs.Ytodcadcapmhgfaa
