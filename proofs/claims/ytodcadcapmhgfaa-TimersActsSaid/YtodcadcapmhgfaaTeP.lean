/- The laws' example of timers. -/
import Derived.Test.YtodcadcapmhgfaaTeO
namespace Go.Proofs.Ytodcadcapmhgfaa
open Go.RowKit

theorem lq_drop {W0 w : World} {qb mb N : Nat} {L : List Tm} {F : Nat → Prop} (c : Int) (q : LQ W0 w qb mb N L F) (hN : N ≤ 1000000000) :
    Calls Try.prog 13 #[.pointer (some ⟨qb, 0, none⟩), .int .i64 c] w fun e w' => e = .returned (.int .i64 ((L.length : Int) - ((dropL c L).length : Int))) ∧ LC W0 w w' qb mb (N + 200000) (dropL c L) F := by
  obtain ⟨⟨v, h, h1⟩, h2, h3⟩ := q
  refine (drop_any c h hN h2.size).mono fun e w' hs => ?_
  obtain ⟨h4, h5⟩ := hs
  exact ⟨h4, LQ.chg h h1 h2 h3 h5⟩
theorem lq_list {W0 w : World} {qb mb N : Nat} {L : List Tm} {F : Nat → Prop} (q : LQ W0 w qb mb N L F) :
    Calls Try.prog 15 #[.pointer (some ⟨qb, 0, none⟩)] w fun e w' => ∃ a c, e = .returned (.slice a L.length c) ∧ TmV w' (.slice a L.length c) L ∧ Mod (fun _ => False) w w' ∧ ∀ g, L ≠ [] → blockOf (.slice a L.length c) = some g → w.heap.size ≤ g := by
  obtain ⟨⟨v, h, h1⟩, h2⟩ := q
  refine (list_any h).mono fun e w' hs => ?_
  obtain ⟨v, rfl, h4, h5, h6⟩ := hs
  obtain ⟨a, c, rfl, -⟩ := h4.val
  exact ⟨a, c, rfl, h4, h5, h6⟩
theorem ok_small (z : Int) (h0 : 0 ≤ z) (h1 : z ≤ 100) : okInt z := by
  unfold okInt Lit.wf
  simp [IntKind.min, IntKind.max, IntKind.bits, IntKind.signed]
  omega
theorem ok_key (c k : Int) (h0 : 0 ≤ c) (h1 : c ≤ 100) (h2 : 0 ≤ k) (h3 : k ≤ 100) : okK (c, k) := ⟨ok_small c h0 h1, ok_small k h2 h3⟩
theorem ok_tm (t : Nat) (c k : Int) (ht : t ≤ 100) (h0 : 0 ≤ c) (h1 : c ≤ 100) (h2 : 0 ≤ k) (h3 : k ≤ 100) : okTm ⟨t, c, k⟩ := ⟨by show t ≤ neverN; unfold neverN; omega, ok_key c k h0 h1 h2 h3⟩
theorem lq_setA {W0 w : World} {qb mb N : Nat} {L : List Tm} {F : Nat → Prop} (A : Array Value) (t : Tm) (hA : tmA t = A) (q : LQ W0 w qb mb N L F) (ht : okTm t) (hN : N ≤ 1000000000) (b : Bool) (L' : List Tm) (he : setT t L = (b, L')) :
    Calls Try.prog 11 #[.pointer (some ⟨qb, 0, none⟩), .agg A] w fun e w' => e = .returned (.bool b) ∧ LC W0 w w' qb mb (N + 1000) L' F := by
  subst hA
  exact lq_set t q ht hN b L' he
theorem lq_dueA {W0 w : World} {qb mb N : Nat} {L : List Tm} {F : Nat → Prop} (z : Int) (A : Array Value) (b : Bool) (now : Nat) (hz : (now : Int) = z) (q : LQ W0 w qb mb N L F) (hN : N ≤ 1000000000) (o : Option Tm) (L' : List Tm) (he : dueT now L = (o, L')) (hA : tmA (o.getD tm0) = A) (hb : o.isSome = b) :
    Calls Try.prog 10 #[.pointer (some ⟨qb, 0, none⟩), .int .u64 z] w fun e w' => e = .returned (.tuple #[.agg A, .bool b]) ∧ LC W0 w w' qb mb (N + 1000) L' F := by
  subst hz hA hb
  exact lq_due now q hN o L' he
theorem lq_nextA {W0 w : World} {qb mb N : Nat} {L : List Tm} {F : Nat → Prop} (z : Int) (q : LQ W0 w qb mb N L F) (hz : ((nextN L : Nat) : Int) = z) : Calls Try.prog 16 #[.pointer (some ⟨qb, 0, none⟩)] w fun e w' => w = w' ∧ e = .returned (.int .u64 z) := by
  subst hz
  exact lq_next q
theorem lq_lenA {W0 w : World} {qb mb N : Nat} {L : List Tm} {F : Nat → Prop} (z : Int) (q : LQ W0 w qb mb N L F) (hz : (L.length : Int) = z) : Calls Try.prog 14 #[.pointer (some ⟨qb, 0, none⟩)] w fun e w' => w = w' ∧ e = .returned (.int .i64 z) := by
  subst hz
  exact lq_len q
theorem lq_atA {W0 w : World} {qb mb N : Nat} {L : List Tm} {F : Nat → Prop} (z : Int) (c k : Int) (q : LQ W0 w qb mb N L F) (hk : okK (c, k)) (hz : ((atN c k L : Nat) : Int) = z) : Calls Try.prog 17 #[.pointer (some ⟨qb, 0, none⟩), .int .i64 c, .int .i64 k] w fun e w' => w = w' ∧ e = .returned (.int .u64 z) := by
  subst hz
  exact lq_at c k q hk
theorem lq_cancelA {W0 w : World} {qb mb N : Nat} {L : List Tm} {F : Nat → Prop} (b : Bool) (L' : List Tm) (c k : Int) (q : LQ W0 w qb mb N L F) (hk : okK (c, k)) (hN : N ≤ 1000000000) (hb : hasK c k L = b) (hL : delT c k L = L') :
    Calls Try.prog 12 #[.pointer (some ⟨qb, 0, none⟩), .int .i64 c, .int .i64 k] w fun e w' => e = .returned (.bool b) ∧ LC W0 w w' qb mb (N + 1000) L' F := by
  subst hb hL
  exact lq_cancel c k q hk hN
theorem lq_dropA {W0 w : World} {qb mb N : Nat} {L : List Tm} {F : Nat → Prop} (z : Int) (L' : List Tm) (c : Int) (q : LQ W0 w qb mb N L F) (hN : N ≤ 1000000000) (hL : dropL c L = L') (hz : (L.length : Int) - (L'.length : Int) = z) :
    Calls Try.prog 13 #[.pointer (some ⟨qb, 0, none⟩), .int .i64 c] w fun e w' => e = .returned (.int .i64 z) ∧ LC W0 w w' qb mb (N + 200000) L' F := by
  subst hL hz
  exact lq_drop c q hN
def t510 : Tm := ⟨5, 1, 0⟩
def t910 : Tm := ⟨9, 1, 0⟩
def t723 : Tm := ⟨7, 2, 3⟩
theorem al1 {W0 w : World} {qb mb : Nat} {F : Nat → Prop} (q : LQ W0 w qb mb 0 [] F) : Calls Try.prog 11 #[.pointer (some ⟨qb, 0, none⟩), .agg #[.int .u64 5, .int .i64 1, .int .i64 0]] w fun e w' => e = .returned (.bool true) ∧ LC W0 w w' qb mb 1000 [t510] F := lq_setA #[.int .u64 5, .int .i64 1, .int .i64 0] t510 rfl q (ok_tm 5 1 0 (by decide) (by decide) (by decide) (by decide) (by decide)) (by decide) true [t510] (by decide)
theorem al2 {W0 w : World} {qb mb : Nat} {F : Nat → Prop} (q : LQ W0 w qb mb 1000 [t510] F) : Calls Try.prog 11 #[.pointer (some ⟨qb, 0, none⟩), .agg #[.int .u64 9, .int .i64 1, .int .i64 0]] w fun e w' => e = .returned (.bool true) ∧ LC W0 w w' qb mb 2000 [t910] F := lq_setA #[.int .u64 9, .int .i64 1, .int .i64 0] t910 rfl q (ok_tm 9 1 0 (by decide) (by decide) (by decide) (by decide) (by decide)) (by decide) true [t910] (by decide)
theorem al3 {W0 w : World} {qb mb : Nat} {F : Nat → Prop} (q : LQ W0 w qb mb 2000 [t910] F) : Calls Try.prog 11 #[.pointer (some ⟨qb, 0, none⟩), .agg #[.int .u64 7, .int .i64 2, .int .i64 3]] w fun e w' => e = .returned (.bool true) ∧ LC W0 w w' qb mb 3000 [t723, t910] F := lq_setA #[.int .u64 7, .int .i64 2, .int .i64 3] t723 rfl q (ok_tm 7 2 3 (by decide) (by decide) (by decide) (by decide) (by decide)) (by decide) true [t723, t910] (by decide)
theorem al4 {W0 w : World} {qb mb : Nat} {F : Nat → Prop} (q : LQ W0 w qb mb 3000 [t723, t910] F) : Calls Try.prog 16 #[.pointer (some ⟨qb, 0, none⟩)] w fun e w' => w = w' ∧ e = .returned (.int .u64 7) := lq_nextA 7 q rfl
theorem al5 {W0 w : World} {qb mb : Nat} {F : Nat → Prop} (q : LQ W0 w qb mb 3000 [t723, t910] F) : Calls Try.prog 10 #[.pointer (some ⟨qb, 0, none⟩), .int .u64 8] w fun e w' => e = .returned (.tuple #[.agg #[.int .u64 7, .int .i64 2, .int .i64 3], .bool true]) ∧ LC W0 w w' qb mb 4000 [t910] F := lq_dueA 8 #[.int .u64 7, .int .i64 2, .int .i64 3] true 8 rfl q (by decide) (some t723) [t910] (by decide) rfl rfl
theorem al6 {W0 w : World} {qb mb : Nat} {F : Nat → Prop} (q : LQ W0 w qb mb 4000 [t910] F) : Calls Try.prog 10 #[.pointer (some ⟨qb, 0, none⟩), .int .u64 8] w fun e w' => e = .returned (.tuple #[.agg #[.int .u64 0, .int .i64 0, .int .i64 0], .bool false]) ∧ LC W0 w w' qb mb 5000 [t910] F := lq_dueA 8 #[.int .u64 0, .int .i64 0, .int .i64 0] false 8 rfl q (by decide) none [t910] (by decide) rfl rfl
theorem al7 {W0 w : World} {qb mb : Nat} {F : Nat → Prop} (q : LQ W0 w qb mb 5000 [t910] F) : Calls Try.prog 16 #[.pointer (some ⟨qb, 0, none⟩)] w fun e w' => w = w' ∧ e = .returned (.int .u64 9) := lq_nextA 9 q rfl
theorem al8 {W0 w : World} {qb mb : Nat} {F : Nat → Prop} (q : LQ W0 w qb mb 5000 [t910] F) : Calls Try.prog 17 #[.pointer (some ⟨qb, 0, none⟩), .int .i64 1, .int .i64 0] w fun e w' => w = w' ∧ e = .returned (.int .u64 9) := lq_atA 9 1 0 q (ok_key 1 0 (by decide) (by decide) (by decide) (by decide)) (by decide)
theorem al9 {W0 w : World} {qb mb : Nat} {F : Nat → Prop} (q : LQ W0 w qb mb 5000 [t910] F) : Calls Try.prog 14 #[.pointer (some ⟨qb, 0, none⟩)] w fun e w' => w = w' ∧ e = .returned (.int .i64 1) := lq_lenA 1 q rfl
theorem al10 {W0 w : World} {qb mb : Nat} {F : Nat → Prop} (q : LQ W0 w qb mb 5000 [t910] F) : Calls Try.prog 15 #[.pointer (some ⟨qb, 0, none⟩)] w fun e w' => ∃ a c, e = .returned (.slice a 1 c) ∧ Mod (fun _ => False) w w' := (lq_list q).mono fun _ _ ⟨a, c, h1, _, h3, _⟩ => ⟨a, c, h1, h3⟩
theorem al11 {W0 w : World} {qb mb : Nat} {F : Nat → Prop} (q : LQ W0 w qb mb 5000 [t910] F) : Calls Try.prog 12 #[.pointer (some ⟨qb, 0, none⟩), .int .i64 1, .int .i64 0] w fun e w' => e = .returned (.bool true) ∧ LC W0 w w' qb mb 6000 [] F := lq_cancelA true [] 1 0 q (ok_key 1 0 (by decide) (by decide) (by decide) (by decide)) (by decide) (by decide) (by decide)
theorem al12 {W0 w : World} {qb mb : Nat} {F : Nat → Prop} (q : LQ W0 w qb mb 6000 [] F) : Calls Try.prog 16 #[.pointer (some ⟨qb, 0, none⟩)] w fun e w' => w = w' ∧ e = .returned (.int .u64 18446744073709551615) := lq_nextA 18446744073709551615 q rfl
theorem al13 {W0 w : World} {qb mb : Nat} {F : Nat → Prop} (q : LQ W0 w qb mb 6000 [] F) : Calls Try.prog 13 #[.pointer (some ⟨qb, 0, none⟩), .int .i64 1] w fun e w' => e = .returned (.int .i64 0) ∧ LC W0 w w' qb mb 206000 [] F := lq_dropA 0 [] 1 q (by decide) (by decide) rfl
theorem LQ.alloc1 {W0 w : World} {qb mb N : Nat} {L : List Tm} (q : LQ W0 w qb mb N L noF) (o : Obj) : LQ W0 (w.alloc o) qb mb N L (fun k => k = w.heap.size) :=
  q.fresh ((Mod.refl _ _).alloc _) (fun k hk => .inr (by subst hk; exact ⟨Nat.le_refl _, by simp⟩))
set_option maxHeartbeats 4000000 in
set_option maxRecDepth 10000 in
theorem alive_any (w : World) : Calls Try.prog 9 #[] w fun e w' => e = .returned (.bool true) ∧ Mod (fun _ => False) w w' := by
  go_enter Try.func9, Try.ntmps9
  (try simp only [List.append])
  go_upto_region 6 with (first
    | (go_at_call 18; (with_reducible refine (lq_new w).mono ?_); rintro e w0 ⟨qb, mb, rfl, hq0, -⟩; have HQ0 := Lib.hid hq0; clear hq0)
    | (go_at_call 11; (with_reducible refine (al1 HQ0.out).mono ?_); rintro e w1 ⟨rfl, hq1, -⟩; have HQ1 := Lib.hid hq1; clear hq1)
    | (go_at_call 11; (with_reducible refine (al2 HQ1.out).mono ?_); rintro e w2 ⟨rfl, hq2, -⟩; have HQ2 := Lib.hid hq2; clear hq2)
    | (go_at_call 11; (with_reducible refine (al3 HQ2.out).mono ?_); rintro e w3 ⟨rfl, hq3, -⟩; have HQ3 := Lib.hid hq3; clear hq3)
    | (go_at_call 16; (with_reducible refine (al4 HQ3.out).mono ?_); rintro e w4 ⟨rfl, rfl⟩)
    | (go_at_call 10; (with_reducible refine (al5 HQ3.out).mono ?_); rintro e w5 ⟨rfl, hq5, -⟩; have HQ5 := Lib.hid hq5; clear hq5)
    | (go_at_call 10; (with_reducible refine (al6 (LQ.alloc1 HQ5.out _)).mono ?_); rintro e w7 ⟨rfl, hq7, hM7⟩; have HB7 := Lib.hid (hM7.blk (Blk.new w5 _ _) (fun h => h rfl)); have HQ7 := Lib.hid hq7; clear hq7; clear hM7)
    | fail)
  have hM8 : Mod (fun _ => False) w7 (w7.alloc (.cells #[.int .u64 0, .int .i64 0, .int .i64 0] 27)) := (Mod.refl _ _).alloc _
  have c8 : (w7.alloc (.cells #[.int .u64 0, .int .i64 0, .int .i64 0] 27)).cell? ⟨w5.heap.size, 1, none⟩ = some (.int .i64 2) := (hM8.blk HB7.out (fun h => h)).cellAt 1 rfl
  have HQ8 := Lib.hid (HQ7.out.still hM8)
  clear hM8
  generalize w7.alloc (.cells #[.int .u64 0, .int .i64 0, .int .i64 0] 27) = w8 at *
  go_wp2_with (first
    | (go_at_call 16; (with_reducible refine (al7 HQ8.out).mono ?_); rintro e w9 ⟨rfl, rfl⟩)
    | (go_at_call 17; (with_reducible refine (al8 HQ8.out).mono ?_); rintro e w9 ⟨rfl, rfl⟩)
    | (go_at_call 14; (with_reducible refine (al9 HQ8.out).mono ?_); rintro e w9 ⟨rfl, rfl⟩)
    | (go_at_call 15; (with_reducible refine (al10 HQ8.out).mono ?_); rintro e w10 ⟨a, c, rfl, hM10⟩; have HQ10 := Lib.hid (HQ8.out.still hM10); clear hM10)
    | (go_at_call 12; (with_reducible refine (al11 HQ10.out).mono ?_); rintro e w11 ⟨rfl, hq11, -⟩; have HQ11 := Lib.hid hq11; clear hq11)
    | (go_at_call 16; (with_reducible refine (al12 HQ11.out).mono ?_); rintro e w12 ⟨rfl, rfl⟩)
    | (go_at_call 13; (with_reducible refine (al13 HQ11.out).mono ?_); rintro e w13 ⟨rfl, hq13, -⟩; have HQ13 := Lib.hid hq13; clear hq13)
    | fail)
  go_ret
  exact ⟨rfl, HQ13.out.m⟩
end Go.Proofs.Ytodcadcapmhgfaa
