/- The walk of the law on whatever is read, one thing behind the other. -/
import Derived.Test.YtbkalloadlaloaaDoorLawA
import Derived.Test.YtbkalloadlaloaaDoorVarT
namespace Go.Proofs.YtbkalloadlaloaaDoor
open Go.RowKit

theorem nil_fail (w : World) (e : Int) : Calls Tryd.prog 16 #[.pointer none, .int .i64 e] w fun x w' => w = w' ∧ x = .returned (.tuple #[]) := by
  go_enter Tryd.func16, Tryd.ntmps16
  go_wp2
  go_end0
  exact ⟨rfl, rfl⟩
theorem nil_bad (w : World) : Calls Tryd.prog 17 #[.pointer none] w fun x w' => w = w' ∧ x = .returned (.int .i64 1) := by
  go_enter Tryd.func17, Tryd.ntmps17
  go_wp2
  go_ret
  exact ⟨rfl, rfl⟩
theorem nil_left (w : World) : Calls Tryd.prog 18 #[.pointer none] w fun x w' => w = w' ∧ x = .returned (.int .i64 0) := by
  go_enter Tryd.func18, Tryd.ntmps18
  go_wp2
  go_ret
  exact ⟨rfl, rfl⟩
theorem nil_int (w : World) : Calls Tryd.prog 19 #[.pointer none] w fun x w' => w = w' ∧ x = .returned (.int .u64 0) := by
  go_enter Tryd.func19, Tryd.ntmps19
  go_wp2_with fail
  refine wp_scope_fwd ?_
  go_wp2_with (first | (with_reducible refine wp_label ?_) | ((with_reducible refine wp_goto ?_); refine fwd_goto 0 rfl ?_) | (go_at_call 18; refine (nil_left _).mono ?_; rintro e w1 ⟨rfl, rfl⟩) | (go_at_call 16; refine (nil_fail _ _).mono ?_; rintro e w' ⟨rfl, rfl⟩))
  refine noGoto_ret ?_
  go_ret
  exact ⟨rfl, rfl⟩
theorem nil_bytes (w : World) (n : Int) : Calls Tryd.prog 21 #[.pointer none, .int .u64 n] w fun x w' => w = w' ∧ x = .returned (.slice none 0 0) := by
  go_enter Tryd.func21, Tryd.ntmps21
  go_wp2_with (go_at_call 17; refine (nil_bad _).mono ?_; rintro e w1 ⟨rfl, rfl⟩)
  go_ret
  exact ⟨rfl, rfl⟩
theorem nil_byte (w : World) : Calls Tryd.prog 20 #[.pointer none] w fun x w' => w = w' ∧ x = .returned (.int .u8 0) := by
  go_enter Tryd.func20, Tryd.ntmps20
  go_wp2_with (go_at_call 21; refine (nil_bytes _ _).mono ?_; rintro e w1 ⟨rfl, rfl⟩)
  go_ret
  exact ⟨rfl, rfl⟩

theorem left_q {w : World} {rb : Nat} {s : RS} (h : Rdr w rb s) (n : Nat) : Calls Tryd.prog 18 #[.pointer (some ⟨rb, 0, none⟩)] (w.drewN n) fun e w'' => e = .returned (.int .i64 (s.l.length : Int)) ∧ ∃ m, w'' = w.drewN m :=
  Calls.quiet_of_same ((left_any (w := w.drewN n) (h.heap rfl)).mono fun _ _ h => ⟨h.2, h.1.symm⟩)
theorem bad_q {w : World} {rb : Nat} {s : RS} (h : Rdr w rb s) (n : Nat) : Calls Tryd.prog 17 #[.pointer (some ⟨rb, 0, none⟩)] (w.drewN n) fun e w'' => e = .returned (.int .i64 s.e) ∧ ∃ m, w'' = w.drewN m :=
  Calls.quiet_of_same ((bad_any (w := w.drewN n) (h.heap rfl)).mono fun _ _ h => ⟨h.2, h.1.symm⟩)
theorem refs_left_q {w : World} {tb cap : Nat} {a : Option Addr} {L : List UInt8} {s : RS} (h : RefS w tb a cap L s) (n : Nat) : Calls Tryd.prog 27 #[.pointer (some ⟨tb, 0, none⟩)] (w.drewN n) fun e w'' => e = .returned (.int .i64 (s.l.length : Int)) ∧ ∃ m, w'' = w.drewN m :=
  Calls.quiet_of ((refs_left (w := w.drewN n) (h.heap rfl)).mono fun _ _ h => ⟨h.2, h.1.imp fun _ h => h.symm⟩)

/-- Both readers stand alike. -/
structure Both (w : World) (B rb tb : Nat) (a : Option Addr) (cap : Nat) (L : List UInt8) (s : RS) : Prop where
  r : Rdr w rb s
  t : RefS w tb a cap L s
  rB : B ≤ rb
  tB : B ≤ tb
  ne : rb ≠ tb
  aB : L ≠ [] → ∀ x, a = some x → x.block < B
theorem refs_blk {w : World} {tb cap : Nat} {a : Option Addr} {L : List UInt8} {s : RS} (h : RefS w tb a cap L s) : ∃ cs, Blk w tb cs 40 ∧ cs[2]? = some (.int .i64 s.e) := by
  obtain ⟨k, e, rfl, hb, _⟩ := h
  exact ⟨_, hb, rfl⟩
/-- The program's reader has been turned, and the document's has not. -/
theorem Both.afterR {w w' : World} {B rb tb cap : Nat} {a : Option Addr} {L : List UInt8} {s : RS} (h : Both w B rb tb a cap L s) (hM : Mod (fun k => k = rb) w w') : RefS w' tb a cap L s :=
  hM.refs h.t (fun e => h.ne e.symm) (fun hl x hx e => by have := h.aB hl x hx; have := h.rB; omega)
theorem rdr_afterT {w w' : World} {rb tb cap : Nat} {a : Option Addr} {L : List UInt8} {s s' : RS} (h : Rdr w rb s) (ht : RefS w tb a cap L s') (hne : rb ≠ tb) (hM : Mod (fun k => k = tb) w w') : Rdr w' rb s := by
  obtain ⟨cs, hb, _⟩ := refs_blk ht
  exact hM.rdr h hne (fun b cs' hb' e => Blk.ne hb' hb (by decide) e)
theorem own_afterT {w w' : World} {B tb cap : Nat} {a : Option Addr} {L l : List UInt8} {s' : RS} {v : Value} (h : OwnB w B v l) (ht : RefS w tb a cap L s') (hM : Mod (fun k => k = tb) w w') : OwnB w' B v l := by
  obtain ⟨cs, hb, _⟩ := refs_blk ht
  refine hM.own h (fun g hg e => ?_)
  obtain ⟨_, h2⟩ := h
  rcases h2 with ⟨rfl, _⟩ | ⟨g', cap', cur, rfl, _, hg', _⟩
  · simp [Value.ownBlock] at hg
  · simp [Value.ownBlock] at hg
    subst hg
    exact Blk.ne (show Blk w g' cur 5 from hg') hb (by decide) e

set_option maxRecDepth 10000 in
set_option maxHeartbeats 4000000 in
theorem reads_some (lb la : List UInt8) (n : Nat) (vb va : Value) (w : World) (hT : Tabs w) (hb : Byts w vb lb) (ha : Byts w va la) (hl : (lb.length : Int) ≤ 300) (hla : (la.length : Int) ≤ 60) (h0 : la ≠ []) :
    Calls Tryd.prog 4 #[vb, va, .int .u64 (n : Int)] w fun e w' => e = .returned (.bool true) ∧ Below w.heap.size w w' := by
  have HT := Lib.hid hT
  have HB := Lib.hid hb
  have hlt := fun (h : lb ≠ []) => Sl.lt hb (by simpa using h)
  obtain ⟨ab, cb, rfl, hb1, hb2, hb3⟩ := byts_val hb
  obtain ⟨ba, oa, ca, rfl, _, _, hca⟩ := byts_addr ha h0
  obtain ⟨m, hm⟩ : ∃ m, m = la.length := ⟨_, rfl⟩
  rw [← hm] at hla ⊢
  have HM := Lib.hid hm
  have HCA := Lib.hid hca
  have hlt2 : lb ≠ [] → ∀ x, ab = some x → x.block < w.heap.size := by
    rintro hl x rfl
    exact hlt hl _ rfl
  have HLT := Lib.hid hlt2
  clear hT hb ha hb1 hb2 hb3 hlt hlt2 hm hca h0
  go_enter Tryd.func4, Tryd.ntmps4
  go_wp2_with fail
  refine (alive_any _ HT.out).mono ?_
  rintro e w1 ⟨rfl, hM1⟩
  go_wp2_with (first | (go_at_call 16; refine (nil_fail _ _).mono ?_; rintro e w' ⟨rfl, rfl⟩) | (go_at_call 17; refine (nil_bad _).mono ?_; rintro e w' ⟨rfl, rfl⟩) | (go_at_call 18; refine (nil_left _).mono ?_; rintro e w' ⟨rfl, rfl⟩) | (go_at_call 19; refine (nil_int _).mono ?_; rintro e w' ⟨rfl, rfl⟩) | (go_at_call 20; refine (nil_byte _).mono ?_; rintro e w' ⟨rfl, rfl⟩) | (go_at_call 21; refine (nil_bytes _ _).mono ?_; rintro e w' ⟨rfl, rfl⟩))
  refine (read_any (l := lb) (HB.out.kept hM1 (fun _ _ h => h)) (by omega)).mono ?_
  rintro e w2 ⟨rb, rfl, hrb, hr, hM2⟩
  go_wp2_with fail
  have hBoth : Both (w2.alloc (.cells #[.slice ab lb.length cb, .int .i64 0, .int .i64 0] 40)) w.heap.size rb w2.heap.size ab cb lb ⟨lb, 0⟩ := by
    have hA : Mod (fun _ => False) w2 (w2.alloc (.cells #[.slice ab lb.length cb, .int .i64 0, .int .i64 0] 40)) := (Mod.refl _ _).alloc _
    have h1 := hM1.size
    have h2 := hM2.size
    refine ⟨hr.kept hA (fun _ _ h => h), ⟨0, 0, by simp [refS], Blk.new _ _ _, HB.out.kept ((hM1.trans hM2).trans hA) (fun _ _ h => h), Nat.zero_le _, by omega, fun hl x hx e => ?_⟩, by omega, by omega, fun e => by have := hr.lt; omega, HLT.out⟩
    have := HLT.out hl x hx
    omega
  have hMB : Mod (fun k => w.heap.size ≤ k) w (w2.alloc (.cells #[.slice ab lb.length cb, .int .i64 0, .int .i64 0] 40)) := ((hM1.trans hM2).alloc _).mono (fun _ _ h => h.elim)
  generalize w2.alloc (.cells #[.slice ab lb.length cb, .int .i64 0, .int .i64 0] 40) = w3 at *
  generalize w2.heap.size = tb at *
  generalize (⟨lb, 0⟩ : RS) = s0 at *
  clear hr hM1 hM2 hrb
  go_loopw [10] (fun i wr => ∃ (j : Nat) (s : RS), j ≤ m ∧ i = .int .i64 j ∧ Both wr w.heap.size rb tb ab cb lb s ∧ Mod (fun k => w.heap.size ≤ k) w wr) (fun i _ => m - (intOf i).toNat)
  case atStart => exact ⟨0, s0, Nat.zero_le _, rfl, hBoth, hMB⟩
  case round =>
    clear hBoth hMB
    obtain ⟨j, s, hj, rfl, hBo, hMB⟩ := hrel
    by_cases hjm : (j : Int) < m
    · have hjl : j < la.length := by have := HM.out; omega
      have e1 : la[j]? = some la[j] := List.getElem?_eq_getElem hjl
      have g1 : wr.cell? ⟨ba, oa + j, none⟩ = some (bv la[j]) := hMB.cellAt (HCA.out j _ e1) (fun e => by have := block_lt_of_cell (HCA.out j _ e1); have e' : w.heap.size ≤ ba := e; simp only at this; omega)
      generalize la[j] = x at *
      unfold bv at g1
      have hx := x.toNat_lt
      have hx2 : (x.toNat : Int) < 256 := by omega
      have HBo := Lib.hid hBo
      clear e1 hx hBo hjl
      rcases (show (x.toNat : Int) % 5 = 0 ∨ (x.toNat : Int) % 5 = 1 ∨ (x.toNat : Int) % 5 = 2 ∨ (x.toNat : Int) % 5 = 3 ∨ (x.toNat : Int) % 5 = 4 by omega) with h5 | h5 | h5 | h5 | h5
      · go_wp2_with fail
        refine (int_any HBo.out.r).mono ?_
        rintro e w4 ⟨rfl, hr4, hM4⟩
        have ht4 := HBo.out.afterR hM4
        go_wp2_with fail
        refine (refint_any ht4).mono ?_
        rintro e w5 ⟨rfl, ht5, hM5⟩
        have hr5 := rdr_afterT hr4 ht4 HBo.out.ne hM5
        have hM45 := (hMB.trans' hM4 (fun k hk e => by have e' : k = rb := e; have := HBo.out.rB; show w.heap.size ≤ k; omega)).trans' hM5 (fun k hk e => by have e' : k = tb := e; have := HBo.out.tB; show w.heap.size ≤ k; omega)
        obtain ⟨cs, hbk, hck⟩ := refs_blk ht5
        have hcb := hbk.cellAt 2 hck
        have HR := Lib.hid hr5
        have HT5 := Lib.hid ht5
        go_wp2_with fail
        go_quiet ((first | (go_at_call 18; exact left_q HR.out _) | (go_at_call 27; exact refs_left_q HT5.out _) | (go_at_call 17; exact bad_q HR.out _)))
        go_wp2
        go_roundw
        case rel => exact ⟨j + 1, _, by omega, by go_num, ⟨HR.out.heap rfl, HT5.out.heap rfl, HBo.out.rB, HBo.out.tB, HBo.out.ne, HBo.out.aB⟩, hM45.drewN _⟩
        case measure => simp [intOf]; omega
      · go_wp2_with fail
        refine (int_any HBo.out.r).mono ?_
        rintro e w4 ⟨rfl, hr4, hM4⟩
        have ht4 := HBo.out.afterR hM4
        go_wp2_with fail
        refine (refint_any ht4).mono ?_
        rintro e w5 ⟨rfl, ht5, hM5⟩
        have hr5 := rdr_afterT hr4 ht4 HBo.out.ne hM5
        have hM45 := (hMB.trans' hM4 (fun k hk e => by have e' : k = rb := e; have := HBo.out.rB; show w.heap.size ≤ k; omega)).trans' hM5 (fun k hk e => by have e' : k = tb := e; have := HBo.out.tB; show w.heap.size ≤ k; omega)
        obtain ⟨cs, hbk, hck⟩ := refs_blk ht5
        have hcb := hbk.cellAt 2 hck
        have HR := Lib.hid hr5
        have HT5 := Lib.hid ht5
        go_wp2_with fail
        go_quiet ((first | (go_at_call 18; exact left_q HR.out _) | (go_at_call 27; exact refs_left_q HT5.out _) | (go_at_call 17; exact bad_q HR.out _)))
        go_wp2
        go_roundw
        case rel => exact ⟨j + 1, _, by omega, by go_num, ⟨HR.out.heap rfl, HT5.out.heap rfl, HBo.out.rB, HBo.out.tB, HBo.out.ne, HBo.out.aB⟩, hM45.drewN _⟩
        case measure => simp [intOf]; omega
      · go_wp2_with fail
        refine (byte_any HBo.out.r).mono ?_
        rintro e w4 ⟨rfl, hr4, hM4⟩
        have ht4 := HBo.out.afterR hM4
        go_wp2_with fail
        refine (refbyte_any ht4).mono ?_
        rintro e w5 ⟨rfl, ht5, hM5⟩
        have hr5 := rdr_afterT hr4 ht4 HBo.out.ne hM5
        have hM45 := (hMB.trans' hM4 (fun k hk e => by have e' : k = rb := e; have := HBo.out.rB; show w.heap.size ≤ k; omega)).trans' hM5 (fun k hk e => by have e' : k = tb := e; have := HBo.out.tB; show w.heap.size ≤ k; omega)
        obtain ⟨cs, hbk, hck⟩ := refs_blk ht5
        have hcb := hbk.cellAt 2 hck
        have HR := Lib.hid hr5
        have HT5 := Lib.hid ht5
        go_wp2_with fail
        go_quiet ((first | (go_at_call 18; exact left_q HR.out _) | (go_at_call 27; exact refs_left_q HT5.out _) | (go_at_call 17; exact bad_q HR.out _)))
        go_wp2
        go_roundw
        case rel => exact ⟨j + 1, _, by omega, by go_num, ⟨HR.out.heap rfl, HT5.out.heap rfl, HBo.out.rB, HBo.out.tB, HBo.out.ne, HBo.out.aB⟩, hM45.drewN _⟩
        case measure => simp [intOf]; omega
      · go_wp2_with fail
        refine (bytes_any n HBo.out.r).mono ?_
        rintro e w4 ⟨v4, rfl, ho4, hr4, hM4⟩
        have ht4 := HBo.out.afterR hM4
        go_wp2_with fail
        refine (refbytes_any n ht4).mono ?_
        rintro e w5 ⟨v5, rfl, ho5, ht5, hM5⟩
        have hr5 := rdr_afterT hr4 ht4 HBo.out.ne hM5
        have ho45 := own_afterT ho4 ht4 hM5
        have hM45 := (hMB.trans' hM4 (fun k hk e => by have e' : k = rb := e; have := HBo.out.rB; show w.heap.size ≤ k; omega)).trans' hM5 (fun k hk e => by have e' : k = tb := e; have := HBo.out.tB; show w.heap.size ≤ k; omega)
        go_wp2_with fail
        refine (same_any ho45.byts ho5.byts).mono ?_
        rintro e w6 ⟨⟨q6, rfl⟩, rfl⟩
        rw [show decide ((s.bytes n).1 = (s.bytes n).1) = true from decide_eq_true rfl]
        have hr6 : Rdr (w5.drewN q6) rb (s.bytes n).2 := hr5.heap rfl
        have ht6 : RefS (w5.drewN q6) tb ab cb lb (s.bytes n).2 := ht5.heap rfl
        have hM46 := hM45.drewN q6
        generalize w5.drewN q6 = w6 at *
        obtain ⟨cs, hbk, hck⟩ := refs_blk ht6
        have hcb := hbk.cellAt 2 hck
        have HR := Lib.hid hr6
        have HT5 := Lib.hid ht6
        go_wp2_with fail
        go_quiet ((first | (go_at_call 18; exact left_q HR.out _) | (go_at_call 27; exact refs_left_q HT5.out _) | (go_at_call 17; exact bad_q HR.out _)))
        go_wp2
        go_roundw
        case rel => exact ⟨j + 1, _, by omega, by go_num, ⟨HR.out.heap rfl, HT5.out.heap rfl, HBo.out.rB, HBo.out.tB, HBo.out.ne, HBo.out.aB⟩, hM46.drewN _⟩
        case measure => simp [intOf]; omega
      · have hf0 : ∀ s' : RS, s'.fail 0 = s' := fun s' => by simp [RS.fail]
        have HF0 := Lib.hid hf0
        clear hf0
        by_cases h200 : (200 : Int) < x.toNat
        · go_wp2_with fail
          refine (fail_any 9 HBo.out.r).mono ?_
          rintro e w4 ⟨rfl, hr4, hM4⟩
          have ht4 := HBo.out.afterR hM4
          go_wp2_with fail
          refine (refs_fail 9 (by decide) ht4).mono ?_
          rintro e w5 ⟨rfl, ht5, hM5⟩
          have hr5 := rdr_afterT hr4 ht4 HBo.out.ne hM5
          have hM45 := (hMB.trans' hM4 (fun k hk e => by have e' : k = rb := e; have := HBo.out.rB; show w.heap.size ≤ k; omega)).trans' hM5 (fun k hk e => by have e' : k = tb := e; have := HBo.out.tB; show w.heap.size ≤ k; omega)
          go_wp2_with fail
          refine (fail_any 0 hr5).mono ?_
          rw [HF0.out]
          rintro e w6 ⟨rfl, hr6, hM6⟩
          have ht6 := (⟨hr5, ht5, HBo.out.rB, HBo.out.tB, HBo.out.ne, HBo.out.aB⟩ : Both w5 w.heap.size rb tb ab cb lb _).afterR hM6
          have hM46 := hM45.trans' hM6 (fun k hk e => by have e' : k = rb := e; have := HBo.out.rB; show w.heap.size ≤ k; omega)
          obtain ⟨cs, hbk, hck⟩ := refs_blk ht6
          have hcb := hbk.cellAt 2 hck
          have HR := Lib.hid hr6
          have HT5 := Lib.hid ht6
          go_wp2_with fail
          go_quiet ((first | (go_at_call 18; exact left_q HR.out _) | (go_at_call 27; exact refs_left_q HT5.out _) | (go_at_call 17; exact bad_q HR.out _)))
          go_wp2
          go_roundw
          case rel => exact ⟨j + 1, _, by omega, by go_num, ⟨HR.out.heap rfl, HT5.out.heap rfl, HBo.out.rB, HBo.out.tB, HBo.out.ne, HBo.out.aB⟩, hM46.drewN _⟩
          case measure => simp [intOf]; omega
        · go_wp2_with fail
          refine (fail_any 0 HBo.out.r).mono ?_
          rw [HF0.out]
          rintro e w6 ⟨rfl, hr6, hM6⟩
          have ht6 := HBo.out.afterR hM6
          have hM46 := hMB.trans' hM6 (fun k hk e => by have e' : k = rb := e; have := HBo.out.rB; show w.heap.size ≤ k; omega)
          obtain ⟨cs, hbk, hck⟩ := refs_blk ht6
          have hcb := hbk.cellAt 2 hck
          have HR := Lib.hid hr6
          have HT5 := Lib.hid ht6
          go_wp2_with fail
          go_quiet ((first | (go_at_call 18; exact left_q HR.out _) | (go_at_call 27; exact refs_left_q HT5.out _) | (go_at_call 17; exact bad_q HR.out _)))
          go_wp2
          go_roundw
          case rel => exact ⟨j + 1, _, by omega, by go_num, ⟨HR.out.heap rfl, HT5.out.heap rfl, HBo.out.rB, HBo.out.tB, HBo.out.ne, HBo.out.aB⟩, hM46.drewN _⟩
          case measure => simp [intOf]; omega
    · go_wp2
      go_ret
      exact ⟨rfl, hMB.below (Nat.le_refl _) (fun _ _ h => h)⟩
set_option maxRecDepth 10000 in
theorem reads_long (lb la : List UInt8) (n : Nat) (vb va : Value) (w : World) (hT : Tabs w) (hb : Byts w vb lb) (ha : Byts w va la) (h : (300 : Int) < lb.length ∨ ((lb.length : Int) ≤ 300 ∧ (60 : Int) < la.length)) :
    Calls Tryd.prog 4 #[vb, va, .int .u64 (n : Int)] w fun e w' => e = .returned (.bool true) ∧ Below w.heap.size w w' := by
  have HT := Lib.hid hT
  obtain ⟨ab, cb, rfl, _⟩ := byts_val hb
  obtain ⟨aa, ca, rfl, _⟩ := byts_val ha
  clear hT hb ha
  rcases h with h | ⟨h, h'⟩
  · go_enter Tryd.func4, Tryd.ntmps4
    go_wp2_with fail
    refine (alive_any _ HT.out).mono ?_
    rintro e w1 ⟨rfl, hM1⟩
    go_wp2_with fail
    go_ret
    exact ⟨rfl, hM1.none_below⟩
  · go_enter Tryd.func4, Tryd.ntmps4
    go_wp2_with fail
    refine (alive_any _ HT.out).mono ?_
    rintro e w1 ⟨rfl, hM1⟩
    go_wp2_with fail
    go_ret
    exact ⟨rfl, hM1.none_below⟩
set_option maxRecDepth 10000 in
theorem reads_none (lb : List UInt8) (n : Nat) (vb va : Value) (w : World) (hT : Tabs w) (hb : Byts w vb lb) (ha : Byts w va []) (hl : (lb.length : Int) ≤ 300) :
    Calls Tryd.prog 4 #[vb, va, .int .u64 (n : Int)] w fun e w' => e = .returned (.bool true) ∧ Below w.heap.size w w' := by
  have HT := Lib.hid hT
  have HB := Lib.hid hb
  obtain ⟨ab, cb, rfl, _⟩ := byts_val hb
  obtain ⟨aa, ca, rfl, _⟩ := byts_val ha
  simp only [List.length_nil]
  clear hT hb ha
  go_enter Tryd.func4, Tryd.ntmps4
  go_wp2_with fail
  refine (alive_any _ HT.out).mono ?_
  rintro e w1 ⟨rfl, hM1⟩
  go_wp2_with (first | (go_at_call 16; refine (nil_fail _ _).mono ?_; rintro e w' ⟨rfl, rfl⟩) | (go_at_call 17; refine (nil_bad _).mono ?_; rintro e w' ⟨rfl, rfl⟩) | (go_at_call 18; refine (nil_left _).mono ?_; rintro e w' ⟨rfl, rfl⟩) | (go_at_call 19; refine (nil_int _).mono ?_; rintro e w' ⟨rfl, rfl⟩) | (go_at_call 20; refine (nil_byte _).mono ?_; rintro e w' ⟨rfl, rfl⟩) | (go_at_call 21; refine (nil_bytes _ _).mono ?_; rintro e w' ⟨rfl, rfl⟩))
  refine (read_any (l := lb) (HB.out.kept hM1 (fun _ _ h => h)) (by omega)).mono ?_
  rintro e w2 ⟨rb, rfl, hrb, hr, hM2⟩
  go_wp2_with fail
  refine wp_loop_rounds 1 ?_
  rw [rounds_succ]
  go_wp2_with fail
  go_ret
  exact ⟨rfl, ((hM1.trans hM2).alloc _).none_below⟩
theorem reads_any (lb la : List UInt8) (n : Nat) (vb va : Value) (w : World) (hT : Tabs w) (hb : Byts w vb lb) (ha : Byts w va la) :
    Calls Tryd.prog 4 #[vb, va, .int .u64 (n : Int)] w fun e w' => e = .returned (.bool true) ∧ Below w.heap.size w w' := by
  by_cases h1 : (lb.length : Int) ≤ 300
  · by_cases h2 : (la.length : Int) ≤ 60
    · by_cases h0 : la = []
      · subst h0; exact reads_none lb n vb va w hT hb ha h1
      · exact reads_some lb la n vb va w hT hb ha h1 h2 h0
    · exact reads_long lb la n vb va w hT hb ha (.inr ⟨h1, by omega⟩)
  · exact reads_long lb la n vb va w hT hb ha (.inl (by omega))
end Go.Proofs.YtbkalloadlaloaaDoor
