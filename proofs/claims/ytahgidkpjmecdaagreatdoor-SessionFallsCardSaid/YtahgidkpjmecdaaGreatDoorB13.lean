/- Parts of the proof: StL StM StN StO StP. -/
import Derived.Test.YtahgidkpjmecdaaGreatDoorB03
import Derived.Test.YtahgidkpjmecdaaGreatDoorB12
import Derived.Lib.MinMax
import Derived.Deep.QuietTactic
import Derived.BigQuiet
import Derived.Deep.RegionHeld
import Derived.Deep.RegionHeld3
set_option maxRecDepth 100000
namespace Go.Proofs.YtahgidkpjmecdaaGreatDoor
open Go.RowKit Go.Maps
def cutP (p : Pm) : Pm := { p with d := min p.d 100000, s := min p.s 100000 }
def newT (c : Bool) (p : Pm) : Tb := ⟨c, cutP p, [], fun _ => st0 0, 0, 0, 0, 0, 0, 0, 0, 0, 0, false⟩
theorem built_tb (c : Bool) (p : Pm) (m : Nat) (h : p.t.length = 16) : Tryz.prog.built 103 [(0, .bool c), (1, .agg (pmC (cutP p))), (2, .map (some m))] = some (tbC m (newT c p)) := by
 obtain ⟨i, d, s, n, hh, t⟩ := p
 obtain ⟨a0, a1, a2, a3, a4, a5, a6, a7, a8, a9, a10, a11, a12, a13, a14, a15, rfl⟩ := list16 t h
 kernel_rfl
theorem pmC_cut (p : Pm) : ((pmC p).setIfInBounds 1 (.int .u64 ((min p.d 100000 : Nat) : Int))).setIfInBounds 2 (.int .u64 ((min p.s 100000 : Nat) : Int)) = pmC (cutP p) := by
 apply Array.toList_inj.1
 simp [pmC, pmL, cutP]
theorem may_num {p : Pm} (h : mayB p = true) : (p.i : Int) ≤ 4611686018427387903 ∧ (p.d : Int) ≤ 4611686018427387903 ∧ (p.s : Int) ≤ 4611686018427387903 ∧ (p.n : Int) ≤ 1152921504606846976 := by
 unfold mayB at h
 simp only [Bool.and_eq_true, decide_eq_true_eq] at h
 exact ⟨h.1.1.1.1, h.1.1.1.2, h.1.1.2, h.1.2⟩
theorem TBuf.fresh (B : Nat) (w1 : World) (c : Bool) (p : Pm) (hp : mayB p = true) (h : p.t.length = 16) (hB : B ≤ w1.heap.size) :
  TBuf B ((w1.alloc (.map #[] 0)).alloc (.cells (tbC w1.heap.size (newT c p)) 103)) (w1.heap.size + 1) w1.heap.size (fun _ => ⟨0, 0, .slice none 0 0, .slice none 0 0, 0, 0, 0⟩) (newT c p) := by
 have hb := Blk.new (w1.alloc (.map #[] 0)) (tbC w1.heap.size (newT c p)) 103
 rw [World.size_alloc] at hb
 have hi := IMap.made 34 .u64 w1 (fun _ => Value.pointer (some ⟨0, 0, none⟩))
 have hn := may_num hp
 have z0 : nat64 0 := by unfold nat64; omega
 refine ⟨by omega, hB, hb, hi.kept (S := fun _ => False) ((Mod.refl _ _).alloc _) (fun h => h), fun z hz => (by cases hz), fun z hz => (by cases hz), fun z hz => (by cases hz), by omega, h, fun z hz => (by cases hz), ?_⟩
 refine ⟨?_, ?_, ?_, ?_, ?_, ?_, ?_, ?_, ?_, ?_, z0, z0, z0⟩
 ·show p.i ≤ 4611686018427387904; omega
 ·show min p.d 100000 ≤ 100000; omega
 ·show min p.s 100000 ≤ 100000; omega
 ·show p.n ≤ 1152921504606846976; omega
 all_goals exact Nat.zero_le _
def TNew (w w' : World) (c : Bool) (p : Pm) (e : Ending) : Prop := ∃ tb mb G, e = .returned (.pointer (some ⟨tb, 0, none⟩)) ∧ TBuf w.heap.size w' tb mb G (newT c p) ∧ Mod (fun _ => False) w w'
theorem tnew_any (c : Bool) (p : Pm) (hp : mayB p = true) (h16 : p.t.length = 16) (w : World) :
  Calls Tryz.prog 22 #[.bool c, .agg (pmC p)] w fun e w' => TNew w w' c p e := by
 have HB := Lib.hid (PmB.new w p h16)
 have HM := Lib.hid (fun W => may_any h16 W)
 rw [hp] at HM
 unfold pmV at HM
 have hmm := @run_makeMap Tryz.prog
 have m1 : min (p.d : Int) 100000 = ((min p.d 100000 : Nat) : Int) := by omega
 have m2 : min (p.s : Int) 100000 = ((min p.s 100000 : Nat) : Int) := by omega
 have HP := Lib.hid hp
 have H16 := Lib.hid h16
 have HX : Hid (∀ W1, Blk W1 w.heap.size (pmC p) 63 → Blk ((W1.setCell ⟨w.heap.size, 1, none⟩ (.int .u64 ((min p.d 100000 : Nat) : Int))).setCell ⟨w.heap.size, 2, none⟩ (.int .u64 ((min p.s 100000 : Nat) : Int))) w.heap.size (pmC (cutP p)) 63) := Lib.hid (fun W1 hW => by
  have := (hW.set 1 (.int .u64 ((min p.d 100000 : Nat) : Int))).set 2 (.int .u64 ((min p.s 100000 : Nat) : Int))
  rw [pmC_cut] at this
  exact this)
 have HS : Hid (∀ q : Pm, q.t.length = 16 → (Tryz.prog.info? 63).map (·.size) = some (pmC q).size) := Lib.hid (fun q hq => size25 q hq)
 have HS2 : Hid ((Tryz.prog.info? 63).map (·.size) = some (pmC (cutP p)).size) := Lib.hid (HS.out (cutP p) h16)
 clear hp h16
 go_enter Tryz.func22, Tryz.ntmps22
 go_wp2_with (first
  | ((with_reducible refine wpList_load_blk ?_ 63 (.tmp 3) ?_ w.heap.size ?_ (pmC p) 63 _ HB.out.blk Tryz.underlying63 ?_ (HS.out p H16.out) ?_); (iterate 4 exact rfl))
  | (go_at_call 40; (with_reducible refine (HM.out _).mono ?_); rintro e w1 ⟨rfl, hm⟩; have HM1 := Lib.hid hm; have HB1 := Lib.hid (hm.blk HB.out.blk (fun h => h)); have d1 : w1.cell? ⟨w.heap.size, 1, none⟩ = some (.int .u64 (p.d : Int)) := HB1.out.cellAt 1 rfl; have d2 : w1.cell? ⟨w.heap.size, 2, none⟩ = some (.int .u64 (p.s : Int)) := HB1.out.cellAt 2 rfl; have f1 : w1.frozen? ⟨w.heap.size, 1, none⟩ = false := HB1.out.free 1; have f2 : w1.frozen? ⟨w.heap.size, 2, none⟩ = false := HB1.out.free 2; clear hm)
  | ((with_reducible refine wpList_load_blk ?_ 63 (.tmp 3) ?_ w.heap.size ?_ (pmC (cutP p)) 63 _ (HX.out _ HB1.out) Tryz.underlying63 ?_ HS2.out ?_); (iterate 4 exact rfl))
  | ((with_reducible refine wpList_build_c ?_ 103 [(0, .tmp 16), (1, .tmp 17), (2, .tmp 18)] ?_ [(0, .bool c), (1, .agg (pmC (cutP p))), (2, .map (some w1.heap.size))] ?_ _ (built_tb c p w1.heap.size H16.out) ?_); (iterate 3 exact rfl))
  | fail)
 go_ret
 have hMw : Mod (fun _ => False) w w1 := ((Mod.refl _ _).alloc _).trans HM1.out
 have hM3 : Mod (fun _ => False) w ((w1.setCell ⟨w.heap.size, 1, none⟩ (.int .u64 ((min p.d 100000 : Nat) : Int))).setCell ⟨w.heap.size, 2, none⟩ (.int .u64 ((min p.s 100000 : Nat) : Int))) :=
  (hMw.setCell (p := ⟨w.heap.size, 1, none⟩) (fun h => absurd h (Nat.lt_irrefl _)) _).setCell (p := ⟨w.heap.size, 2, none⟩) (fun h => absurd h (Nat.lt_irrefl _)) _
 have hsz : ((w1.setCell ⟨w.heap.size, 1, none⟩ (.int .u64 ((min p.d 100000 : Nat) : Int))).setCell ⟨w.heap.size, 2, none⟩ (.int .u64 ((min p.s 100000 : Nat) : Int))).heap.size = w1.heap.size := by simp [World.setCell]
 have hT := TBuf.fresh w.heap.size ((w1.setCell ⟨w.heap.size, 1, none⟩ (.int .u64 ((min p.d 100000 : Nat) : Int))).setCell ⟨w.heap.size, 2, none⟩ (.int .u64 ((min p.s 100000 : Nat) : Int))) c p HP.out H16.out hM3.size
 rw [hsz] at hT
 exact ⟨_, _, _, rfl, hT, (hM3.alloc _).alloc _⟩
def sumOn (f : Int → Nat) (l : List Int) : Nat := (l.map f).sum
theorem sumOn_snoc (f : Int → Nat) (l : List Int) (z : Int) : sumOn f (l ++ [z]) = sumOn f l + f z := by simp [sumOn]
theorem sumOn_perm (f : Int → Nat) {l m : List Int} (h : l.Perm m) : sumOn f l = sumOn f m := (h.map f).sum_nat
theorem sumOn_le (f : Int → Nat) (b : Nat) : ∀ (l : List Int), (∀ z ∈ l, f z ≤ b) → sumOn f l ≤ l.length * b
 | [], _ => by simp [sumOn]
 | z :: l, h => by
  have ih := sumOn_le f b l (fun y hy => h y (by simp [hy]))
  have h1 := h z (by simp)
  unfold sumOn at ih ⊢
  simp only [List.map_cons, List.sum_cons, List.length_cons, Nat.succ_mul]
  omega
def Come (dom : List Int) (left : Int → Bool) (ss : List Int) : Prop := ss.Nodup ∧ ∀ z, z ∈ ss ↔ (z ∈ dom ∧ left z = false)
theorem Come.start (dom : List Int) : Come dom (fun z => decide (z ∈ dom)) [] := ⟨List.nodup_nil, fun z => by simp⟩
theorem Come.step {dom : List Int} {left : Int → Bool} {ss : List Int} (h : Come dom left ss) {z : Int} (hl : left z = true) (hd : z ∈ dom) : Come dom (fun y => left y && !decide (y = z)) (ss ++ [z]) := by
 have hnew : z ∉ ss := fun hx => by have := ((h.2 z).1 hx).2; rw [hl] at this; cases this
 refine ⟨List.nodup_append.2 ⟨h.1, by simp, fun a ha b hb => by simp at hb; subst hb; exact fun e => hnew (e ▸ ha)⟩, fun y => ?_⟩
 by_cases hy : y = z
 ·subst hy; simp [hd]
 ·simp [h.2 y, hy]
theorem Come.perm {dom : List Int} {left : Int → Bool} {ss : List Int} (h : Come dom left ss) (hn : dom.Nodup) (hl : ∀ z, left z = false) : ss.Perm dom :=
 (List.perm_ext_iff_of_nodup h.1 hn).2 fun z => by rw [h.2 z, hl]; simp
theorem Come.len {dom : List Int} {left : Int → Bool} {ss : List Int} (h : Come dom left ss) : ss.length ≤ dom.length := h.1.length_le_of_subset (fun z hz => ((h.2 z).1 hz).1)
theorem IRange.dom {K : TypeId} {q : IntKind} {w : World} {mb r cnt : Nat} {dom : List Int} {f : Int → Value} {left : Int → Bool} (h : IRange K q w mb r dom f left cnt) : ∀ z, left z = true → z ∈ dom := by
 obtain ⟨D, L, _, _, _, _, h5⟩ := h
 exact h5
def topS (s : St) : Nat := (s.inn.map (fun o => o.top)).getD 0
def topsN (T : Tb) : Nat := sumOn (fun z => topS (T.m z)) T.dom
def givenN (T : Tb) : Nat := sumOn (fun z => (T.m z).given) T.dom
theorem tops_any {B : Nat} {w : World} {tb mb : Nat} {G : Int → SM} {T : Tb} (q : TBuf B w tb mb G T) (hl : T.dom.length ≤ 1000) (hb : ∀ z ∈ T.dom, topS (T.m z) ≤ 1000000) :
  Calls Tryz.prog 219 #[.pointer (some ⟨tb, 0, none⟩)] w fun e w' => e = .returned (.int .u64 (topsN T : Int)) ∧ Mod (fun _ => False) w w' := by
 have cm := q.mapc
 obtain ⟨w0, hr0, hrg0, hM0⟩ := q.map.range Tryz.underlying34 (t := 99) Tryz.underlying99
 have HQ := Lib.hid q
 have HR0 := Lib.hid hrg0
 have HM0 := Lib.hid hM0
 have HL := Lib.hid hl
 have HB := Lib.hid hb
 have HND := Lib.hid q.map.nodup
 have hr1 : w.heap.size < w0.heap.size := hrg0.ne.2
 clear q hl hb hrg0 hM0
 generalize hr : w.heap.size = r at *
 have HRR := Lib.hid hr
 clear hr
 go_enter Tryz.func219, Tryz.ntmps219
 go_wp2_with fail
 go_loopw [3] (fun s3 wr => ∃ (left : Int → Bool) (cnt : Nat) (ss : List Int), s3 = .int .u64 (sumOn (fun z => topS (T.m z)) ss : Int) ∧ Hid (IRange 34 .u64 wr mb r T.dom (fun z => .pointer (some ⟨(G z).sb, 0, none⟩)) left cnt ∧ Come T.dom left ss ∧ Mod (fun _ => False) w wr))
  (fun _ wr => wr.rangeLeft mb r)
 case atStart => exact ⟨_, _, [], rfl, Lib.hid ⟨HR0.out, Come.start _, HM0.out⟩⟩
 case round =>
  obtain ⟨left, cnt, ss, rfl, HI⟩ := hrel
  rcases HI.out.1.next Tryz.underlying34 0 with ⟨h0, hl0, hx⟩ | ⟨z, w2, cnt2, hlz, hx, hrg2, hlt, hM2, hsz, hen⟩
  ·have HP := Lib.hid (sumOn_perm (fun z => topS (T.m z)) (HI.out.2.1.perm HND.out hl0))
   clear hl0 h0
   rw [HP.out]
   go_wp2_with fail
   go_ret
   exact ⟨rfl, HI.out.2.2⟩
  ·have hzd := HI.out.1.dom z hlz
   have HC2 := Lib.hid (HI.out.2.1.step hlz hzd)
   have HMW : Hid (Mod (fun _ => False) w w2) := Lib.hid (HI.out.2.2.trans' hM2 (fun k hk e => by have := HRR.out; omega))
   have HRG := Lib.hid hrg2
   have HLT := Lib.hid (And.intro hlt HI.out.1.left_eq)
   have hs := (HQ.out.still HMW.out).strs z hzd
   have c1 : w2.cell? ⟨(G z).sb, 1, none⟩ = some (ptrI (G z).ib (T.m z).inn) := hs.blk.cellAt 1 rfl
   have hsum := sumOn_le (fun z => topS (T.m z)) 1000000 ss (fun y hy => HB.out y ((HI.out.2.1.2 y).1 hy).1)
   have hlen := HI.out.2.1.len
   have h1 := HB.out z hzd
   have u1 : IntKind.u64.wrap ((sumOn (fun z => topS (T.m z)) ss : Int) + (topS (T.m z) : Int)) = ((sumOn (fun z => topS (T.m z)) (ss ++ [z]) : Nat) : Int) := by
    rw [sumOn_snoc, IntWalk.u64_in _ (by have := HL.out; omega)]
    push_cast
    rfl
   have HT : Hid (topS (T.m z) = (((T.m z).inn.map (fun o => o.top)).getD 0)) := Lib.hid rfl
   cases hin : (T.m z).inn with
   | none =>
    rw [hin] at c1 HT
    have e0 : topS (T.m z) = 0 := HT.out
    rw [e0] at u1
    unfold ptrI at c1
    clear hs hsum hlen h1 e0 hzd hlz hlt hrg2 hM2
    generalize (sumOn (fun z => topS (T.m z)) ss : Int) = x at *
    obtain ⟨y, hy⟩ : ∃ y : Int, y = (sumOn (fun z => topS (T.m z)) (ss ++ [z]) : Int) := ⟨_, rfl⟩
    have u2 : IntKind.u64.wrap x = y := by rw [hy]; simpa using u1
    have HY := Lib.hid hy
    clear u1 hy
    go_wp2_with (first
     | (go_at_call 107; (with_reducible refine (itop_nil _).mono ?_); rintro e w3 ⟨rfl, rfl⟩)
     | fail)
    go_roundw
    case rel => exact ⟨_, cnt2, ss ++ [z], by rw [HY.out], Lib.hid ⟨HRG.out, HC2.out, HMW.out⟩⟩
    case measure => rw [HRG.out.left_eq, HLT.out.2]; exact HLT.out.1
   | some o =>
    rw [hin] at c1 HT
    have e0 : topS (T.m z) = o.top := HT.out
    rw [e0] at u1
    unfold ptrI at c1
    have HO := Lib.hid (itop_any (hs.inn o hin))
    clear hs hsum hlen h1 e0 hzd hlz hlt hrg2 hM2
    generalize (sumOn (fun z => topS (T.m z)) ss : Int) = x at *
    obtain ⟨y, hy⟩ : ∃ y : Int, y = (sumOn (fun z => topS (T.m z)) (ss ++ [z]) : Int) := ⟨_, rfl⟩
    rw [← hy] at u1
    have HY := Lib.hid hy
    clear hy
    generalize (o.top : Int) = t at *
    go_wp2_with (first
     | (go_at_call 107; (with_reducible refine HO.out.mono ?_); rintro e w3 ⟨rfl, rfl⟩)
     | fail)
    go_roundw
    case rel => exact ⟨_, cnt2, ss ++ [z], by rw [HY.out], Lib.hid ⟨HRG.out, HC2.out, HMW.out⟩⟩
    case measure => rw [HRG.out.left_eq, HLT.out.2]; exact HLT.out.1
theorem given_any {B : Nat} {w : World} {tb mb : Nat} {G : Int → SM} {T : Tb} (q : TBuf B w tb mb G T) (hl : T.dom.length ≤ 1000) (hb : ∀ z ∈ T.dom, (T.m z).given ≤ 1000000) :
  Calls Tryz.prog 103 #[.pointer (some ⟨tb, 0, none⟩)] w fun e w' => e = .returned (.int .u64 (givenN T : Int)) ∧ Mod (fun _ => False) w w' := by
 have cm := q.mapc
 obtain ⟨w0, hr0, hrg0, hM0⟩ := q.map.range Tryz.underlying34 (t := 99) Tryz.underlying99
 have HQ := Lib.hid q
 have HR0 := Lib.hid hrg0
 have HM0 := Lib.hid hM0
 have HL := Lib.hid hl
 have HB := Lib.hid hb
 have HND := Lib.hid q.map.nodup
 have hr1 : w.heap.size < w0.heap.size := hrg0.ne.2
 clear q hl hb hrg0 hM0
 generalize hr : w.heap.size = r at *
 have HRR := Lib.hid hr
 clear hr
 go_enter Tryz.func103, Tryz.ntmps103
 go_wp2_with fail
 go_loopw [3] (fun s3 wr => ∃ (left : Int → Bool) (cnt : Nat) (ss : List Int), s3 = .int .u64 (sumOn (fun z => (T.m z).given) ss : Int) ∧ Hid (IRange 34 .u64 wr mb r T.dom (fun z => .pointer (some ⟨(G z).sb, 0, none⟩)) left cnt ∧ Come T.dom left ss ∧ Mod (fun _ => False) w wr))
  (fun _ wr => wr.rangeLeft mb r)
 case atStart => exact ⟨_, _, [], rfl, Lib.hid ⟨HR0.out, Come.start _, HM0.out⟩⟩
 case round =>
  obtain ⟨left, cnt, ss, rfl, HI⟩ := hrel
  rcases HI.out.1.next Tryz.underlying34 0 with ⟨h0, hl0, hx⟩ | ⟨z, w2, cnt2, hlz, hx, hrg2, hlt, hM2, hsz, hen⟩
  ·have HP := Lib.hid (sumOn_perm (fun z => (T.m z).given) (HI.out.2.1.perm HND.out hl0))
   clear hl0 h0
   rw [HP.out]
   go_wp2_with fail
   go_ret
   exact ⟨rfl, HI.out.2.2⟩
  ·have hzd := HI.out.1.dom z hlz
   have HC2 := Lib.hid (HI.out.2.1.step hlz hzd)
   have HMW : Hid (Mod (fun _ => False) w w2) := Lib.hid (HI.out.2.2.trans' hM2 (fun k hk e => by have := HRR.out; omega))
   have HRG := Lib.hid hrg2
   have HLT := Lib.hid (And.intro hlt HI.out.1.left_eq)
   have hs := (HQ.out.still HMW.out).strs z hzd
   have c1 : w2.cell? ⟨(G z).sb, 3, none⟩ = some (.int .u64 ((T.m z).given : Int)) := hs.blk.cellAt 3 rfl
   have hsum := sumOn_le (fun z => (T.m z).given) 1000000 ss (fun y hy => HB.out y ((HI.out.2.1.2 y).1 hy).1)
   have hlen := HI.out.2.1.len
   have h1 := HB.out z hzd
   have u1 : IntKind.u64.wrap ((sumOn (fun z => (T.m z).given) ss : Int) + ((T.m z).given : Int)) = ((sumOn (fun z => (T.m z).given) (ss ++ [z]) : Nat) : Int) := by
    rw [sumOn_snoc, IntWalk.u64_in _ (by have := HL.out; omega)]
    push_cast
    rfl
   clear hs hsum hlen h1 hzd hlz hlt hrg2 hM2
   generalize (sumOn (fun z => (T.m z).given) ss : Int) = x at *
   obtain ⟨y, hy⟩ : ∃ y : Int, y = (sumOn (fun z => (T.m z).given) (ss ++ [z]) : Int) := ⟨_, rfl⟩
   rw [← hy] at u1
   have HY := Lib.hid hy
   clear hy
   generalize ((T.m z).given : Int) = t at *
   go_wp2_with fail
   go_roundw
   case rel => exact ⟨_, cnt2, ss ++ [z], by rw [HY.out], Lib.hid ⟨HRG.out, HC2.out, HMW.out⟩⟩
   case measure => rw [HRG.out.left_eq, HLT.out.2]; exact HLT.out.1
def limT (T : Tb) (x i : Nat) : Tb := if i = 0 then T else if i = 1 then { T with lim0 := max T.lim0 x } else { T with lim0 := max T.lim0 x, lim1 := max T.lim1 x }
def maxS (M : Nat) (s : St) : St := { s with max := max s.max M }
def maxT (T : Tb) (M : Nat) (ss : List Int) : Tb := { T with m := fun z => if z ∈ ss then maxS M (T.m z) else T.m z }
def peerT (T : Tb) (p : Pm) : Tb := if mayB p then maxT (limT { T with data := max T.data p.d, stream := max T.stream p.s } (min p.n 40) 2) (max T.stream p.s) T.dom else T
theorem maxT_nil (T : Tb) (M : Nat) : maxT T M [] = T := by unfold maxT; simp
theorem maxT_congr (T : Tb) (M : Nat) {ss dd : List Int} (h : ∀ z, z ∈ ss ↔ z ∈ dd) : maxT T M ss = maxT T M dd := by
 unfold maxT
 congr 1
 funext z
 by_cases hz : z ∈ ss
 ·rw [if_pos hz, if_pos ((h z).1 hz)]
 ·rw [if_neg hz, if_neg (fun e => hz ((h z).2 e))]
theorem maxT_step (T : Tb) (M : Nat) {ss : List Int} {z : Int} (h : z ∉ ss) : ({ maxT T M ss with m := updM (maxT T M ss).m z (maxS M ((maxT T M ss).m z)) } : Tb) = maxT T M (ss ++ [z]) := by
 have e : updM (maxT T M ss).m z (maxS M ((maxT T M ss).m z)) = (maxT T M (ss ++ [z])).m := by
  funext y
  unfold maxT updM
  dsimp only
  by_cases hy : y = z
  ·subst hy; simp [h]
  ·by_cases hs : y ∈ ss <;> simp [hy, hs]
 rw [e]
 rfl
theorem SS_max (M : Nat) (g : SM) (s : St) : SS g (maxS M s) = SS g s := rfl
theorem TS_max (tb mb : Nat) (G : Int → SM) (T : Tb) (M : Nat) (ss : List Int) : ∀ k, TS tb mb G (maxT T M ss) k → TS tb mb G T k := by
 rintro k (h | h | ⟨z, hz, hk⟩)
 ·exact .inl h
 ·exact .inr (.inl h)
 ·refine .inr (.inr ⟨z, hz, ?_⟩)
  have hk2 : SS (G z) (if z ∈ ss then maxS M (T.m z) else T.m z) k := hk
  by_cases hs : z ∈ ss
  ·rw [if_pos hs, SS_max] at hk2; exact hk2
  ·rw [if_neg hs] at hk2; exact hk2
theorem TBuf.setData {B : Nat} {w : World} {tb mb : Nat} {G : Int → SM} {T : Tb} (q : TBuf B w tb mb G T) (n : Nat) (h : nat64 n) : TT B w (w.setCell ⟨tb, 30, none⟩ (.int .u64 (n : Int))) tb mb G G T { T with data := n } :=
 q.setTT { T with data := n } 8 (.int .u64 (n : Int)) rfl rfl rfl rfl rfl (by
  have hn := q.num
  exact ⟨hn.1, hn.2.1, hn.2.2.1, hn.2.2.2.1, hn.2.2.2.2.1, hn.2.2.2.2.2.1, hn.2.2.2.2.2.2.1, hn.2.2.2.2.2.2.2.1, hn.2.2.2.2.2.2.2.2.1, hn.2.2.2.2.2.2.2.2.2.1, hn.2.2.2.2.2.2.2.2.2.2.1, h, hn.2.2.2.2.2.2.2.2.2.2.2.2⟩)
theorem TBuf.setStream {B : Nat} {w : World} {tb mb : Nat} {G : Int → SM} {T : Tb} (q : TBuf B w tb mb G T) (n : Nat) (h : nat64 n) : TT B w (w.setCell ⟨tb, 29, none⟩ (.int .u64 (n : Int))) tb mb G G T { T with stream := n } :=
 q.setTT { T with stream := n } 7 (.int .u64 (n : Int)) rfl rfl rfl rfl rfl (by
  have hn := q.num
  exact ⟨hn.1, hn.2.1, hn.2.2.1, hn.2.2.2.1, hn.2.2.2.2.1, hn.2.2.2.2.2.1, hn.2.2.2.2.2.2.1, hn.2.2.2.2.2.2.2.1, hn.2.2.2.2.2.2.2.2.1, hn.2.2.2.2.2.2.2.2.2.1, h, hn.2.2.2.2.2.2.2.2.2.2.2⟩)
theorem TBuf.setLim0 {B : Nat} {w : World} {tb mb : Nat} {G : Int → SM} {T : Tb} (q : TBuf B w tb mb G T) (n : Nat) (h : n ≤ 40) : TT B w (w.setCell ⟨tb, 27, none⟩ (.int .u64 (n : Int))) tb mb G G T { T with lim0 := n } :=
 q.setTT { T with lim0 := n } 5 (.int .u64 (n : Int)) rfl rfl rfl rfl rfl (by
  have hn := q.num
  exact ⟨hn.1, hn.2.1, hn.2.2.1, hn.2.2.2.1, hn.2.2.2.2.1, hn.2.2.2.2.2.1, hn.2.2.2.2.2.2.1, hn.2.2.2.2.2.2.2.1, h, hn.2.2.2.2.2.2.2.2.2⟩)
theorem TBuf.setLim1 {B : Nat} {w : World} {tb mb : Nat} {G : Int → SM} {T : Tb} (q : TBuf B w tb mb G T) (n : Nat) (h : n ≤ 40) : TT B w (w.setCell ⟨tb, 28, none⟩ (.int .u64 (n : Int))) tb mb G G T { T with lim1 := n } :=
 q.setTT { T with lim1 := n } 6 (.int .u64 (n : Int)) rfl rfl rfl rfl rfl (by
  have hn := q.num
  exact ⟨hn.1, hn.2.1, hn.2.2.1, hn.2.2.2.1, hn.2.2.2.2.1, hn.2.2.2.2.2.1, hn.2.2.2.2.2.2.1, hn.2.2.2.2.2.2.2.1, hn.2.2.2.2.2.2.2.2.1, h, hn.2.2.2.2.2.2.2.2.2.2⟩)
theorem TT.drew {B : Nat} {w w1 : World} {tb mb : Nat} {G G1 : Int → SM} {T T1 : Tb} (h : TT B w w1 tb mb G G1 T T1) : TT B w w1.drew tb mb G G1 T T1 := h.trans (h.1.stay (Mod.refl _ _).drew)
theorem Blk.drew {w : World} {b : Nat} {cs : Array Value} {t : TypeId} (h : Blk w b cs t) : Blk w.drew b cs t := h.heap rfl
theorem IRange.at {K : TypeId} {q : IntKind} {w w' : World} {mb r cnt : Nat} {dom : List Int} {f : Int → Value} {left : Int → Bool} {b : Nat} (h : IRange K q w mb r dom f left cnt) (hM : Mod (fun k => k = b) w w') (h1 : mb ≠ b) (h2 : r ≠ b) : IRange K q w' mb r dom f left cnt := h.kept hM h1 h2
set_option maxHeartbeats 1000000 in
theorem tpeer_any {B : Nat} {w : World} {tb mb : Nat} {G : Int → SM} {T : Tb} (q : TBuf B w tb mb G T) {p : Pm} (hp : mayB p = true) (h16 : p.t.length = 16) :
  Calls Tryz.prog 24 #[.pointer (some ⟨tb, 0, none⟩), .agg (pmC p)] w fun e w' => e = .returned (.tuple #[]) ∧ TC B w w' tb mb G T (peerT T p) := by
 have HB := Lib.hid (PmB.new w p h16)
 have HM := Lib.hid (fun W => may_any h16 W)
 rw [hp] at HM
 unfold pmV at HM
 have HM0 : Hid (Mod (fun _ => False) w (w.alloc (.cells (pmC p) 63))) := Lib.hid ((Mod.refl _ _).alloc _)
 have HL : Hid ((Instr.loadAt 63 (.pointer (some ⟨w.heap.size, 0, none⟩))).run Tryz.prog (w.alloc (.cells (pmC p) 63)) = .ok (.agg (pmC p)) (w.alloc (.cells (pmC p) 63))) := Lib.hid (run_loadAt_mid _ _ 0 63 (pmC p).toList _ HB.out.blk.whole Tryz.underlying63 rfl (size25 p h16))
 have HQ := Lib.hid q
 have HP := Lib.hid hp
 have H16 := Lib.hid h16
 have hb : w.heap.size ≠ tb := fun e => by have := q.blk.lt; omega
 have HNE := Lib.hid hb
 clear q hp h16 hb
 go_enter Tryz.func24, Tryz.ntmps24
 go_wp2_with (first
  | ((with_reducible refine wpList_load_g 63 (.tmp 3) ?_ ?_ (.pointer (some ⟨w.heap.size, 0, none⟩)) (.agg (pmC p)) ?_ HL.out ?_); (iterate 3 exact rfl))
  | (go_at_call 40; (with_reducible refine (HM.out _).mono ?_); rintro e w1 ⟨rfl, hm⟩; have HMW := Lib.hid (HM0.out.trans hm); have HB1 := Lib.hid (hm.blk HB.out.blk (fun h => h)); clear hm)
  | fail)
 have d1 : w1.cell? ⟨w.heap.size, 1, none⟩ = some (.int .u64 (p.d : Int)) := HB1.out.cellAt 1 rfl
 have d2 : w1.cell? ⟨w.heap.size, 2, none⟩ = some (.int .u64 (p.s : Int)) := HB1.out.cellAt 2 rfl
 have HQ1 := Lib.hid (HQ.out.still HMW.out)
 have k8 : w1.cell? ⟨tb, 30, none⟩ = some (.int .u64 (T.data : Int)) := HQ1.out.cell 8 rfl
 have k7 : w1.cell? ⟨tb, 29, none⟩ = some (.int .u64 (T.stream : Int)) := HQ1.out.cell 7 rfl
 have g8 : w1.frozen? ⟨tb, 30, none⟩ = false := HQ1.out.blk.free 30
 have g7 : w1.frozen? ⟨tb, 29, none⟩ = false := HQ1.out.blk.free 29
 have ne1 : ¬ w.heap.size = tb := HNE.out
 have ne2 : ¬ tb = w.heap.size := fun e => HNE.out e.symm
 go_region
 have hpn := may_num HP.out
 have hnum := HQ1.out.num
 have m8 : max (T.data : Int) (p.d : Int) = ((max T.data p.d : Nat) : Int) := by omega
 have m7 : max (T.stream : Int) (p.s : Int) = ((max T.stream p.s : Nat) : Int) := by omega
 have x8 : nat64 (max T.data p.d) := by have := hnum.2.2.2.2.2.2.2.2.2.2.2.1; unfold nat64 at *; omega
 have x7 : nat64 (max T.stream p.s) := by have := hnum.2.2.2.2.2.2.2.2.2.2.1; unfold nat64 at *; omega
 rw [m8, m7]
 have t1 := HQ1.out.setData (max T.data p.d) x8
 have t2 := t1.trans (t1.1.setStream (max T.stream p.s) x7)
 have HT2 := Lib.hid (((HQ.out.stay HMW.out).trans t2).drew)
 have HB2 := Lib.hid (((HB1.out.setOther (a := ⟨tb, 30, none⟩) HNE.out (.int .u64 ((max T.data p.d : Nat) : Int))).setOther (a := ⟨tb, 29, none⟩) HNE.out (.int .u64 ((max T.stream p.s : Nat) : Int))).drew)
 have HTN : Hid (min p.n 40 ≤ 40) := Lib.hid (Nat.min_le_right _ _)
 have mn : min (p.n : Int) 40 = ((min p.n 40 : Nat) : Int) := by omega
 clear hpn hnum m8 m7 x8 x7 t1 t2 k8 k7 g8 g7 d1 d2
 generalize ((w1.setCell ⟨tb, 30, none⟩ (.int .u64 ((max T.data p.d : Nat) : Int))).setCell ⟨tb, 29, none⟩ (.int .u64 ((max T.stream p.s : Nat) : Int))).drew = W2 at *
 generalize hx : min p.n 40 = x at *
 have HX := Lib.hid hx
 clear hx
 go_wp2_with fail
 go_loopw [34] (fun s34 wr => ∃ i : Nat, i ≤ 2 ∧ s34 = .int .i64 i ∧ Hid (TT B w wr tb mb G G T (limT { T with data := max T.data p.d, stream := max T.stream p.s } x i) ∧ Blk wr w.heap.size (pmC p) 63)) (fun s34 _ => 2 - (intOf s34).toNat)
 case atStart => exact ⟨0, by omega, rfl, Lib.hid ⟨HT2.out, HB2.out⟩⟩
 case round =>
  obtain ⟨i, hi, rfl, HI⟩ := hrel
  have d3 : wr.cell? ⟨w.heap.size, 3, none⟩ = some (.int .u64 (p.n : Int)) := HI.out.2.cellAt 3 rfl
  obtain rfl | rfl | rfl : i = 0 ∨ i = 1 ∨ i = 2 := by omega
  ·have k5 : wr.cell? ⟨tb, 27, none⟩ = some (.int .u64 (T.lim0 : Int)) := HI.out.1.1.cell 5 rfl
   have g5 : wr.frozen? ⟨tb, 27, none⟩ = false := HI.out.1.1.blk.free 27
   have mm : max (T.lim0 : Int) (x : Int) = ((max T.lim0 x : Nat) : Int) := by omega
   have hl : max T.lim0 x ≤ 40 := by have := HTN.out; have := HQ.out.num.2.2.2.2.2.2.2.2.1; omega
   have HTX := Lib.hid ((HI.out.1.trans (HI.out.1.1.setLim0 (max T.lim0 x) hl)).drew)
   have HBX := Lib.hid ((HI.out.2.setOther (a := ⟨tb, 27, none⟩) HNE.out (.int .u64 ((max T.lim0 x : Nat) : Int))).drew)
   clear hl
   generalize ((max T.lim0 x : Nat) : Int) = y at *
   go_wp2_with fail
   go_region
   all_goals go_wp2_with fail
   go_roundw
   case rel => exact ⟨1, by omega, rfl, Lib.hid ⟨HTX.out, HBX.out⟩⟩
   case measure => simp [intOf]
  ·have k5 : wr.cell? ⟨tb, 28, none⟩ = some (.int .u64 (T.lim1 : Int)) := HI.out.1.1.cell 6 rfl
   have g5 : wr.frozen? ⟨tb, 28, none⟩ = false := HI.out.1.1.blk.free 28
   have mm : max (T.lim1 : Int) (x : Int) = ((max T.lim1 x : Nat) : Int) := by omega
   have hl : max T.lim1 x ≤ 40 := by have := HTN.out; have := HQ.out.num.2.2.2.2.2.2.2.2.2.1; omega
   have HTX := Lib.hid ((HI.out.1.trans (HI.out.1.1.setLim1 (max T.lim1 x) hl)).drew)
   have HBX := Lib.hid ((HI.out.2.setOther (a := ⟨tb, 28, none⟩) HNE.out (.int .u64 ((max T.lim1 x : Nat) : Int))).drew)
   clear hl
   generalize ((max T.lim1 x : Nat) : Int) = y at *
   go_wp2_with fail
   go_region
   all_goals go_wp2_with fail
   go_roundw
   case rel => exact ⟨2, by omega, rfl, Lib.hid ⟨HTX.out, HBX.out⟩⟩
   case measure => simp [intOf]
  ·have cm := HI.out.1.1.mapc
   obtain ⟨w0, hr0, hrg0, hM0⟩ := HI.out.1.1.map.range Tryz.underlying34 (t := 99) Tryz.underlying99
   have HR0 := Lib.hid hrg0
   have HMR := Lib.hid hM0
   have hwr : w.heap.size ≤ wr.heap.size := HI.out.1.2.2.size
   clear hrg0 hM0
   generalize hr : wr.heap.size = r at *
   have HRR := Lib.hid hwr
   clear hr hwr
   go_wp2_with fail
   go_loopw [6] (fun _ wq => ∃ (left : Int → Bool) (cnt : Nat) (ss : List Int), Hid (IRange 34 .u64 wq mb r T.dom (fun z => .pointer (some ⟨(G z).sb, 0, none⟩)) left cnt ∧ Come T.dom left ss ∧ TT B w wq tb mb G G T (maxT (limT { T with data := max T.data p.d, stream := max T.stream p.s } x 2) (max T.stream p.s) ss)))
    (fun _ wq => wq.rangeLeft mb r)
   case atStart =>
    refine ⟨_, _, [], Lib.hid ⟨HR0.out, Come.start _, ?_⟩⟩
    rw [maxT_nil]
    exact HI.out.1.trans (HI.out.1.1.stay HMR.out)
   case round =>
    obtain ⟨left, cnt, ss, HJ⟩ := hrel
    rcases HJ.out.1.next Tryz.underlying34 0 with ⟨h0, hl0, hx⟩ | ⟨z, w2, cnt2, hlz, hx, hrg2, hlt, hM2, hsz, hen⟩
    ·have HE := Lib.hid (maxT_congr (limT { T with data := max T.data p.d, stream := max T.stream p.s } x 2) (max T.stream p.s) (ss := ss) (dd := T.dom) (fun z => by rw [HJ.out.2.1.2 z, hl0]; simp))
     clear hl0 h0
     go_wp2_with fail
     refine bodyPost_end (results_none rfl _ _ _) rfl ?_
     refine ⟨rfl, ?_⟩
     unfold peerT
     rw [if_pos HP.out, HX.out, ← HE.out]
     exact HJ.out.2.2.tc
    ·have hzd := HJ.out.1.dom z hlz
     have hzs : z ∉ ss := fun h => by have := ((HJ.out.2.1.2 z).1 h).2; rw [hlz] at this; cases this
     have HC2 := Lib.hid (HJ.out.2.1.step hlz hzd)
     have HLT := Lib.hid (And.intro hlt HJ.out.1.left_eq)
     have hold : ∀ k, TS tb mb G (maxT (limT { T with data := max T.data p.d, stream := max T.stream p.s } x 2) (max T.stream p.s) ss) k → k < w.heap.size := fun k hk => (HQ.out.lt k (TS_max _ _ _ _ _ _ k hk)).2
     have hT2 : TT B w w2 tb mb G G T (maxT (limT { T with data := max T.data p.d, stream := max T.stream p.s } x 2) (max T.stream p.s) ss) :=
      ⟨HJ.out.2.2.1.kept hM2 (fun k hk e => by have := hold k hk; have := HRR.out; omega), fun k hk => (HJ.out.2.2.2.1 k hk).imp_right (fun h => ⟨h.1, Nat.lt_of_lt_of_le h.2 hM2.size⟩), HJ.out.2.2.2.2.trans' hM2 (fun k hk e => by have := HRR.out; omega)⟩
     have hs := hT2.1.strs z hzd
     have hsbo := hold _ (.inr (.inr ⟨z, hzd, .inl rfl⟩))
     have hsc := hs.cell 2 (.int .u64 ((max ((maxT (limT { T with data := max T.data p.d, stream := max T.stream p.s } x 2) (max T.stream p.s) ss).m z).max (max T.stream p.s) : Nat) : Int)) (s' := maxS (max T.stream p.s) ((maxT (limT { T with data := max T.data p.d, stream := max T.stream p.s } x 2) (max T.stream p.s) ss).m z)) rfl rfl rfl (fun _ => rfl) (by
      have h1 := hs.num
      have h2 := HJ.out.2.2.1.num.2.2.2.2.2.2.2.2.2.2.1
      refine ⟨?_, h1.2⟩
      have h3 : nat64 (max T.stream p.s) := h2
      have h4 := h1.1
      show nat64 (max _ _)
      unfold nat64 at *
      omega)
     have hT3 := (hT2.trans (SC.tt hT2.1 hzd hsc)).drew
     rw [maxT_step _ _ hzs] at hT3
     have c2 : w2.cell? ⟨(G z).sb, 2, none⟩ = some (.int .u64 (((maxT (limT { T with data := max T.data p.d, stream := max T.stream p.s } x 2) (max T.stream p.s) ss).m z).max : Int)) := hs.blk.cellAt 2 rfl
     have f2 : w2.frozen? ⟨(G z).sb, 2, none⟩ = false := hs.blk.free 2
     have k7 : w2.cell? ⟨tb, 29, none⟩ = some (.int .u64 ((max T.stream p.s : Nat) : Int)) := hT2.1.cell 7 rfl
     have hsm : (G z).sb ≠ mb := (hT2.1.tops z hzd _ (.inl rfl)).2
     have hst : ¬ (G z).sb = tb := (hT2.1.tops z hzd _ (.inl rfl)).1
     have hst2 : ¬ tb = (G z).sb := fun e => hst e.symm
     have hrg3 := (hrg2.at (b := (G z).sb) ((Mod.refl (fun k => k = (G z).sb) _).setCell (p := ⟨(G z).sb, 2, none⟩) (fun _ => rfl) (.int .u64 ((max ((maxT (limT { T with data := max T.data p.d, stream := max T.stream p.s } x 2) (max T.stream p.s) ss).m z).max (max T.stream p.s) : Nat) : Int))) (fun e => hsm e.symm) (fun e => by have := HRR.out; omega)).kept (S := fun _ => False) ((Mod.refl _ _).drew) (fun h => h) (fun h => h)
     have mm : max (((maxT (limT { T with data := max T.data p.d, stream := max T.stream p.s } x 2) (max T.stream p.s) ss).m z).max : Int) ((max T.stream p.s : Nat) : Int) = ((max ((maxT (limT { T with data := max T.data p.d, stream := max T.stream p.s } x 2) (max T.stream p.s) ss).m z).max (max T.stream p.s) : Nat) : Int) := by omega
     have HT3 := Lib.hid hT3
     have HR3 := Lib.hid hrg3
     clear hT3 hrg3 hs hsc hT2 hold hsbo hzd hzs hlz hlt hrg2 hM2 hsm
     generalize ((max ((maxT (limT { T with data := max T.data p.d, stream := max T.stream p.s } x 2) (max T.stream p.s) ss).m z).max (max T.stream p.s) : Nat) : Int) = y at *
     generalize (((maxT (limT { T with data := max T.data p.d, stream := max T.stream p.s } x 2) (max T.stream p.s) ss).m z).max : Int) = y2 at *
     generalize ((max T.stream p.s : Nat) : Int) = y3 at *
     go_wp2_with fail
     go_region
     all_goals go_wp2_with fail
     go_roundw
     case rel => exact ⟨_, cnt2, ss ++ [z], Lib.hid ⟨HR3.out, HC2.out, HT3.out⟩⟩
     case measure => rw [HR3.out.left_eq, HLT.out.2]; exact HLT.out.1
def findE (T : Tb) (id : Nat) (out : Bool) : Int := if (oneWay id && (mineB T.client id != out)) = true then 8 else if (id : Int) ∈ T.dom then 0 else if mineB T.client id = true then 8 else if (T.own.n : Int) ≤ (id : Int) / 4 then 4 else 0
def findV (G : Int → SM) (T : Tb) (id : Nat) (out : Bool) : Value := if findE T id out = 0 ∧ (id : Int) ∈ T.dom then .pointer (some ⟨(G id).sb, 0, none⟩) else .pointer none
theorem find_any {B : Nat} {w : World} {tb mb : Nat} {G : Int → SM} {T : Tb} (q : TBuf B w tb mb G T) {id : Nat} (hi : okId id) (out : Bool) :
  Calls Tryz.prog 192 #[.pointer (some ⟨tb, 0, none⟩), .int .u64 (id : Int), .bool out] w fun e w' => w = w' ∧ e = .returned (.tuple #[findV G T id out, .int .i64 (findE T id out)]) := by
 have cm := q.mapc
 have hl := q.look hi
 have cn : w.cell? ⟨tb, 4, none⟩ = some (.int .u64 (T.own.n : Int)) := q.blk.cellAt 4 rfl
 have hb2 : bits .and .u64 (id : Int) 2 = if oneWay id then 2 else 0 := by
  rw [and2 hi]
  rcases and2_cases id with ⟨h1, h2⟩ | ⟨h1, h2⟩ <;> rw [h1, h2] <;> rfl
 have HM := Lib.hid (mine_any q hi)
 have hp : (0 : Int) ≤ (id : Int) := by omega
 have td : IntKind.u64.wrap ((id : Int).tdiv 4) = (id : Int) / 4 := by
  rw [Int.tdiv_eq_ediv_of_nonneg hp]
  unfold okId at hi
  exact IntWalk.u64_in _ (by omega)
 clear q
 obtain ⟨V, hV⟩ : ∃ V, V = findV G T id out := ⟨_, rfl⟩
 obtain ⟨E, hE⟩ : ∃ E, E = findE T id out := ⟨_, rfl⟩
 rw [← hV, ← hE]
 unfold findV findE at hV
 unfold findE at hE
 have HV := Lib.hid hV
 have HE := Lib.hid hE
 clear hV hE
 by_cases hd : (id : Int) ∈ T.dom
 ·rw [if_pos hd] at hl
  have HD := Lib.hid hd
  cases hw : oneWay id <;> cases hm : mineB T.client id <;> cases out <;> (
   rw [hm] at HM
   rw [hw] at hb2
   have HW := Lib.hid (And.intro hw hm)
   simp only [if_true, if_false, Bool.false_eq_true] at hb2
   clear hd hm hw hi
   generalize hz : (id : Int) = z at *
   have HZ := Lib.hid hz
   clear hz
   go_enter Tryz.func192, Tryz.ntmps192
   go_wp2_with (first
    | (go_at_call 72; (with_reducible refine HM.out.mono ?_); rintro e w1 ⟨rfl, rfl⟩)
    | fail)
   go_ret2
   have hd := HD.out
   refine ⟨rfl, ?_⟩
   rw [HV.out, HE.out]
   simp [hd, HW.out.1, HW.out.2])
 ·rw [if_neg hd] at hl
  have HD := Lib.hid hd
  by_cases hn : (T.own.n : Int) ≤ (id : Int) / 4
  ·have tn := decide_eq_true hn
   cases hw : oneWay id <;> cases hm : mineB T.client id <;> cases out <;> (
    rw [hm] at HM
    rw [hw] at hb2
    have HW := Lib.hid (And.intro hw hm)
    simp only [if_true, if_false, Bool.false_eq_true] at hb2
    have HN := Lib.hid hn
    clear hd hm hw hi hn hp
    generalize (id : Int) / 4 = y at *
    generalize hz : (id : Int) = z at *
    have HZ := Lib.hid hz
    clear hz
    go_enter Tryz.func192, Tryz.ntmps192
    go_wp2_with (first
     | (go_at_call 72; (with_reducible refine HM.out.mono ?_); rintro e w1 ⟨rfl, rfl⟩)
     | fail)
    go_ret2
    have hd := HD.out
    refine ⟨rfl, ?_⟩
    rw [HV.out, HE.out]
    simp [hd, HN.out, HW.out.1, HW.out.2])
  ·have tn := decide_eq_false hn
   cases hw : oneWay id <;> cases hm : mineB T.client id <;> cases out <;> (
    rw [hm] at HM
    rw [hw] at hb2
    have HW := Lib.hid (And.intro hw hm)
    simp only [if_true, if_false, Bool.false_eq_true] at hb2
    have HN := Lib.hid hn
    clear hd hm hw hi hn hp
    generalize (id : Int) / 4 = y at *
    generalize hz : (id : Int) = z at *
    have HZ := Lib.hid hz
    clear hz
    go_enter Tryz.func192, Tryz.ntmps192
    go_wp2_with (first
     | (go_at_call 72; (with_reducible refine HM.out.mono ?_); rintro e w1 ⟨rfl, rfl⟩)
     | fail)
    go_ret2
    have hd := HD.out
    refine ⟨rfl, ?_⟩
    rw [HV.out, HE.out]
    simp [hd, HN.out, HW.out.1, HW.out.2])
def wasN (T : Tb) (z : Option Int) : Nat := match z with | none => 0 | some z => topS (T.m z)
def risesB (T : Tb) (z : Option Int) (E : Nat) : Bool := decide (E ≤ wasN T z) || decide (topsN T + E - wasN T z ≤ T.read + T.own.d)
theorem part_none {B : Nat} {w : World} {tb mb : Nat} {G : Int → SM} {T : Tb} (q : TBuf B w tb mb G T) : Calls Tryz.prog 194 #[.pointer (some ⟨tb, 0, none⟩), .pointer none] w fun e w' => INew w w' T.own.s e := by
 have c3 := q.own3.1
 have us : IntKind.i64.wrap (T.own.s : Int) = (T.own.s : Int) := IntWalk.i64_in _ (by have := q.num.2.2.1; omega)
 have HIN := Lib.hid (inew_any w T.own.s (by have := q.num.2.2.1; omega))
 clear q
 go_enter Tryz.func194, Tryz.ntmps194
 go_wp2_with (first
  | (go_at_call 74; (with_reducible refine HIN.out.mono ?_); rintro e w1 ⟨ib, mbi, rfl, hO, hM⟩; have HO := Lib.hid (And.intro hO hM); clear hO hM)
  | fail)
 go_ret
 exact ⟨ib, mbi, rfl, HO.out⟩
theorem part_some {B : Nat} {w : World} {g : SM} {s : St} (q : SBuf B w g s) {o : IB} (ho : s.inn = some o) (t : Value) : Calls Tryz.prog 194 #[t, .pointer (some ⟨g.sb, 0, none⟩)] w fun e w' => w = w' ∧ e = .returned (.pointer (some ⟨g.ib, 0, none⟩)) := by
 have c1 := q.ptrs.2.1
 rw [ho] at c1
 unfold ptrI at c1
 clear q ho
 go_enter Tryz.func194, Tryz.ntmps194
 go_wp2_with fail
 go_ret
 exact ⟨rfl, rfl⟩
set_option maxHeartbeats 1000000 in
theorem rises_none {B : Nat} {w : World} {tb mb : Nat} {G : Int → SM} {T : Tb} (q : TBuf B w tb mb G T) (hl : T.dom.length ≤ 1000) (hb : ∀ z ∈ T.dom, topS (T.m z) ≤ 1000000) (E : Nat) (hE : (E : Int) ≤ 4611686018427387904) (hr : T.read ≤ 2000000000) :
  Calls Tryz.prog 193 #[.pointer (some ⟨tb, 0, none⟩), .pointer none, .int .u64 (E : Int)] w fun e w' => e = .returned (.bool (risesB T (none) E)) ∧ Mod (fun _ => False) w w' := by
 have HQ := Lib.hid q
 have HL := Lib.hid hl
 have HB := Lib.hid hb
 have K31 : Hid (w.cell? ⟨tb, 31, none⟩ = some (.int .u64 (T.read : Int))) := Lib.hid (q.cell 9 rfl)
 have K2 : Hid (w.cell? ⟨tb, 2, none⟩ = some (.int .u64 (T.own.d : Int))) := Lib.hid (q.blk.cellAt 2 rfl)
 have hd := q.num.2.1
 have htn : topsN T ≤ 1000000000 := by
  have := sumOn_le (fun z => topS (T.m z)) 1000000 T.dom hb
  unfold topsN
  omega
 obtain ⟨W, hW⟩ : ∃ W : Int, (wasN T (none) : Int) = W := ⟨_, rfl⟩
 have hW0 : 0 ≤ W := by omega
 have HR : Hid (risesB T (none) E = (decide ((E : Int) ≤ W) || decide ((topsN T : Int) + (E : Int) - W ≤ (T.read : Int) + (T.own.d : Int)))) := Lib.hid (by
  unfold risesB
  by_cases h1 : E ≤ wasN T (none)
  ·rw [decide_eq_true h1, decide_eq_true (show (E : Int) ≤ W by omega)]; rfl
  ·rw [decide_eq_false h1, decide_eq_false (show ¬ (E : Int) ≤ W by omega)]
   congr 1
   exact decide_eq_decide.2 (by omega))
 rw [HR.out]
 have hWz : W = 0 := by rw [← hW]; rfl
 subst hWz
 clear hW0
 have u1 : IntKind.u64.wrap ((topsN T : Int) + (E : Int)) = (topsN T : Int) + (E : Int) := IntWalk.u64_in _ (by omega)
 have u3 : IntKind.u64.wrap ((T.read : Int) + (T.own.d : Int)) = (T.read : Int) + (T.own.d : Int) := IntWalk.u64_in _ (by omega)
 by_cases h1 : (E : Int) ≤ 0
 ·have t1 : decide ((E : Int) ≤ 0) = true := decide_eq_true h1
  rw [t1]
  clear q hl hb hd htn hr hE h1 u1 u3 hW
  generalize (E : Int) = e0 at *
  go_enter Tryz.func193, Tryz.ntmps193
  go_wp2_with fail
  go_quiet (fail)
  go_wp2_with fail
  go_ret
  exact ⟨rfl, (Mod.refl _ _).drewN _⟩
 ·have t1 : decide ((E : Int) ≤ 0) = false := decide_eq_false h1
  have u2 : IntKind.u64.wrap ((topsN T : Int) + (E : Int) - 0) = (topsN T : Int) + (E : Int) - 0 := IntWalk.u64_in _ (by omega)
  obtain ⟨t0, ht0⟩ : ∃ t0 : Int, (topsN T : Int) = t0 := ⟨_, rfl⟩
  have HT := Lib.hid ht0
  rw [t1]
  rw [ht0] at u1 u2 ⊢
  clear q hl hb hd htn hr hE h1 hW ht0
  generalize (E : Int) = e0 at *
  generalize (T.read : Int) = r0 at *
  generalize (T.own.d : Int) = d0 at *
  go_enter Tryz.func193, Tryz.ntmps193
  go_upto_region 4 with fail
  refine wp_region_held_drew (S := fun X => Mod (fun _ => False) w X) (by kernel_rfl) (Mod.refl _ _).drew (fun hS => ?_)
  refine' tk 0 _ (some 15) rfl rfl (by kernel_rfl) (fun _ _ _ => id) (Or.inl ⟨by rfl, fun X hX => ?_⟩) hS ?_; rotate_left
  ·go_simp; exact rfl
  (try go_frame); refine' tk 1 _ (some 16) rfl rfl (by kernel_rfl) (fun _ _ _ => id) (Or.inl ⟨by rfl, fun X hX => ?_⟩) hS ?_; rotate_left
  ·go_simp; exact rfl
  (try go_frame); refine' tk 2 _ (some 17) rfl rfl (by kernel_rfl) (fun _ _ _ => id) (Or.inl ⟨by rfl, fun X hX => ?_⟩) hS ?_; rotate_left
  ·go_simp; exact rfl
  (try go_frame); refine' tk 3 _ (some 18) rfl rfl (by kernel_rfl) (fun _ _ _ => id) (Or.inl ⟨by rfl, fun X hX => ?_⟩) hS ?_; rotate_left
  ·go_simp; exact rfl
  (try go_frame); refine' tk 4 _ (some 19) rfl rfl (by kernel_rfl) (fun _ _ _ => id) (Or.inl ⟨by rfl, fun X hX => ?_⟩) hS ?_; rotate_left
  ·go_simp; exact rfl
  (try go_frame); refine' tk 6 _ (some 21) rfl rfl (by kernel_rfl) (fun _ _ _ => id) (Or.inl ⟨by rfl, fun X hX => ?_⟩) hS ?_; rotate_left
  ·go_simp; exact rfl
  (try go_frame); refine' tk 8 _ (some 23) rfl rfl (by kernel_rfl) (fun _ _ _ => id) (Or.inl ⟨by rfl, fun X hX => ?_⟩) hS ?_; rotate_left
  ·go_simp; exact rfl
  (try go_frame); refine' tk 10 _ (some 25) rfl rfl (by kernel_rfl) (fun _ _ _ => id) (Or.inl ⟨by rfl, fun X hX => ?_⟩) hS ?_; rotate_left
  ·go_simp; exact rfl
  (try go_frame); refine' tk 11 _ (some 26) rfl rfl (by kernel_rfl) (fun _ _ _ => id) (Or.inl ⟨by rfl, fun X hX => ?_⟩) hS ?_; rotate_left
  ·go_simp; exact rfl
  (try go_frame); refine' tk 12 _ (some 27) rfl rfl (by kernel_rfl) (fun _ _ _ => id) (Or.inl ⟨by rfl, fun X hX => ?_⟩) hS ?_; rotate_left
  ·go_simp; exact rfl
  (try go_frame); refine' tk 13 _ (some 28) rfl rfl (by kernel_rfl) (fun _ _ _ => id) (Or.inl ⟨by rfl, fun X hX => ?_⟩) hS ?_; rotate_left
  ·have h := (show Mod (fun _ => False) w X from hX).cellAt K31.out (fun h => h); go_simp; exact rfl
  (try go_frame); refine' tk 14 _ (some 29) rfl rfl (by kernel_rfl) (fun _ _ _ => id) (Or.inl ⟨by rfl, fun X hX => ?_⟩) hS ?_; rotate_left
  ·go_simp; exact rfl
  (try go_frame); refine' tk 15 _ (some 30) rfl rfl (by kernel_rfl) (fun _ _ _ => id) (Or.inl ⟨by rfl, fun X hX => ?_⟩) hS ?_; rotate_left
  ·go_simp; exact rfl
  (try go_frame); refine' tk 16 _ (some 31) rfl rfl (by kernel_rfl) (fun _ _ _ => id) (Or.inl ⟨by rfl, fun X hX => ?_⟩) hS ?_; rotate_left
  ·go_simp; exact rfl
  (try go_frame); refine' tk 17 _ (some 32) rfl rfl (by kernel_rfl) (fun _ _ _ => id) (Or.inl ⟨by rfl, fun X hX => ?_⟩) hS ?_; rotate_left
  ·go_simp; exact rfl
  (try go_frame); refine' tk 18 _ (some 33) rfl rfl (by kernel_rfl) (fun _ _ _ => id) (Or.inl ⟨by rfl, fun X hX => ?_⟩) hS ?_; rotate_left
  ·have h := (show Mod (fun _ => False) w X from hX).cellAt K2.out (fun h => h); go_simp; exact rfl
  (try go_frame); refine' tk 19 _ (some 34) rfl rfl (by kernel_rfl) (fun _ _ _ => id) (Or.inl ⟨by rfl, fun X hX => ?_⟩) hS ?_; rotate_left
  ·go_simp; exact rfl
  (try go_frame); refine wpAnyH_ready (rs := [5]) (by kernel_rfl) (by simp) ?_
  refine arH (o := ⟨some 20, _, _, _, _, some (3, false)⟩) rfl fun K hK => ?_
  go_simp
  refine (tops_any (HQ.out.still hS) HL.out HB.out).mono ?_
  rintro e w2 ⟨rfl, hM2⟩
  rw [HT.out]
  refine hK.out _ _ (Mod.trans hS hM2) (fun hS => ?_)
  clear hK K hM2
  refine' tk 7 _ (some 22) rfl rfl (by kernel_rfl) (fun _ _ _ => id) (Or.inl ⟨by rfl, fun X hX => ?_⟩) hS ?_; rotate_left
  ·go_simp; exact rfl
  (try go_frame); refine' tk 9 _ (some 24) rfl rfl (by kernel_rfl) (fun _ _ _ => id) (Or.inl ⟨by rfl, fun X hX => ?_⟩) hS ?_; rotate_left
  ·go_simp; exact rfl
  (try go_frame); refine' tk 20 _ (some 35) rfl rfl (by kernel_rfl) (fun _ _ _ => id) (Or.inl ⟨by rfl, fun X hX => ?_⟩) hS ?_; rotate_left
  ·go_simp; exact rfl
  (try go_frame); refine' tk 21 _ (some 36) rfl rfl (by kernel_rfl) (fun _ _ _ => id) (Or.inl ⟨by rfl, fun X hX => ?_⟩) hS ?_; rotate_left
  ·go_simp; exact rfl
  (try go_frame); refine' tk 22 _ (some 6) rfl rfl (by kernel_rfl) (fun _ _ _ => id) (Or.inl ⟨by rfl, fun X hX => ?_⟩) hS ?_; rotate_left
  ·go_simp; exact rfl
  (try go_frame); refine wpAnyH_done (by kernel_rfl) ?_ _
  go_wp2_with fail
  go_ret
  simp only [Int.sub_zero]
  exact ⟨rfl, hS⟩
set_option maxHeartbeats 1000000 in
theorem rises_some {B : Nat} {w : World} {tb mb : Nat} {G : Int → SM} {T : Tb} (q : TBuf B w tb mb G T) (hl : T.dom.length ≤ 1000) (hb : ∀ z ∈ T.dom, topS (T.m z) ≤ 1000000) {z : Int} (hz : z ∈ T.dom) {o : IB} (ho : (T.m z).inn = some o) (E : Nat) (hE : (E : Int) ≤ 4611686018427387904) (hr : T.read ≤ 2000000000) :
  Calls Tryz.prog 193 #[.pointer (some ⟨tb, 0, none⟩), .pointer (some ⟨(G z).sb, 0, none⟩), .int .u64 (E : Int)] w fun e w' => e = .returned (.bool (risesB T (some z) E)) ∧ Mod (fun _ => False) w w' := by
 have HQ := Lib.hid q
 have HL := Lib.hid hl
 have HB := Lib.hid hb
 have K31 : Hid (w.cell? ⟨tb, 31, none⟩ = some (.int .u64 (T.read : Int))) := Lib.hid (q.cell 9 rfl)
 have K2 : Hid (w.cell? ⟨tb, 2, none⟩ = some (.int .u64 (T.own.d : Int))) := Lib.hid (q.blk.cellAt 2 rfl)
 have hd := q.num.2.1
 have htn : topsN T ≤ 1000000000 := by
  have := sumOn_le (fun z => topS (T.m z)) 1000000 T.dom hb
  unfold topsN
  omega
 obtain ⟨W, hW⟩ : ∃ W : Int, (wasN T (some z) : Int) = W := ⟨_, rfl⟩
 have hW0 : 0 ≤ W := by omega
 have HR : Hid (risesB T (some z) E = (decide ((E : Int) ≤ W) || decide ((topsN T : Int) + (E : Int) - W ≤ (T.read : Int) + (T.own.d : Int)))) := Lib.hid (by
  unfold risesB
  by_cases h1 : E ≤ wasN T (some z)
  ·rw [decide_eq_true h1, decide_eq_true (show (E : Int) ≤ W by omega)]; rfl
  ·rw [decide_eq_false h1, decide_eq_false (show ¬ (E : Int) ≤ W by omega)]
   congr 1
   exact decide_eq_decide.2 (by omega))
 rw [HR.out]
 have c1 : w.cell? ⟨(G z).sb, 1, none⟩ = some (ptrI (G z).ib (T.m z).inn) := (q.strs z hz).ptrs.2.1
 have HTP : Hid (Calls Tryz.prog 107 #[.pointer (some ⟨(G z).ib, 0, none⟩)] w fun e w' => w = w' ∧ e = .returned (.int .u64 W)) := Lib.hid (by
  have h := itop_any ((q.strs z hz).inn o ho)
  have e : (o.top : Int) = W := (by
   rw [← hW]
   show (o.top : Int) = ((topS (T.m z) : Nat) : Int)
   unfold topS
   rw [ho]
   rfl)
  rw [e] at h
  exact h)
 have hWm : W ≤ 1000000 := by have := hb z hz; rw [← hW]; show ((topS (T.m z) : Nat) : Int) ≤ 1000000; omega
 rw [ho] at c1
 unfold ptrI at c1
 have u1 : IntKind.u64.wrap ((topsN T : Int) + (E : Int)) = (topsN T : Int) + (E : Int) := IntWalk.u64_in _ (by omega)
 have u3 : IntKind.u64.wrap ((T.read : Int) + (T.own.d : Int)) = (T.read : Int) + (T.own.d : Int) := IntWalk.u64_in _ (by omega)
 by_cases h1 : (E : Int) ≤ W
 ·have t1 : decide ((E : Int) ≤ W) = true := decide_eq_true h1
  rw [t1]
  clear q hl hb hd htn hr hE h1 u1 u3 hW
  generalize (E : Int) = e0 at *
  clear hW0 hWm
  go_enter Tryz.func193, Tryz.ntmps193
  go_wp2_with (first
   | (go_at_call 107; (with_reducible refine HTP.out.mono ?_); rintro e w1 ⟨rfl, rfl⟩)
   | fail)
  go_quiet (fail)
  go_wp2_with fail
  go_ret
  exact ⟨rfl, (Mod.refl _ _).drewN _⟩
 ·have t1 : decide ((E : Int) ≤ W) = false := decide_eq_false h1
  have u2 : IntKind.u64.wrap ((topsN T : Int) + (E : Int) - W) = (topsN T : Int) + (E : Int) - W := IntWalk.u64_in _ (by omega)
  obtain ⟨t0, ht0⟩ : ∃ t0 : Int, (topsN T : Int) = t0 := ⟨_, rfl⟩
  have HT := Lib.hid ht0
  rw [t1]
  rw [ht0] at u1 u2 ⊢
  clear q hl hb hd htn hr hE h1 hW ht0
  generalize (E : Int) = e0 at *
  clear hW0 hWm
  generalize (T.read : Int) = r0 at *
  generalize (T.own.d : Int) = d0 at *
  go_enter Tryz.func193, Tryz.ntmps193
  go_upto_region 4 with (first
   | (go_at_call 107; (with_reducible refine HTP.out.mono ?_); rintro e w1 ⟨rfl, rfl⟩)
   | fail)
  refine wp_region_held_drew (S := fun X => Mod (fun _ => False) w X) (by kernel_rfl) (Mod.refl _ _).drew (fun hS => ?_)
  refine' tk 0 _ (some 15) rfl rfl (by kernel_rfl) (fun _ _ _ => id) (Or.inl ⟨by rfl, fun X hX => ?_⟩) hS ?_; rotate_left
  ·go_simp; exact rfl
  (try go_frame); refine' tk 1 _ (some 16) rfl rfl (by kernel_rfl) (fun _ _ _ => id) (Or.inl ⟨by rfl, fun X hX => ?_⟩) hS ?_; rotate_left
  ·go_simp; exact rfl
  (try go_frame); refine' tk 2 _ (some 17) rfl rfl (by kernel_rfl) (fun _ _ _ => id) (Or.inl ⟨by rfl, fun X hX => ?_⟩) hS ?_; rotate_left
  ·go_simp; exact rfl
  (try go_frame); refine' tk 3 _ (some 18) rfl rfl (by kernel_rfl) (fun _ _ _ => id) (Or.inl ⟨by rfl, fun X hX => ?_⟩) hS ?_; rotate_left
  ·go_simp; exact rfl
  (try go_frame); refine' tk 4 _ (some 19) rfl rfl (by kernel_rfl) (fun _ _ _ => id) (Or.inl ⟨by rfl, fun X hX => ?_⟩) hS ?_; rotate_left
  ·go_simp; exact rfl
  (try go_frame); refine' tk 6 _ (some 21) rfl rfl (by kernel_rfl) (fun _ _ _ => id) (Or.inl ⟨by rfl, fun X hX => ?_⟩) hS ?_; rotate_left
  ·go_simp; exact rfl
  (try go_frame); refine' tk 8 _ (some 23) rfl rfl (by kernel_rfl) (fun _ _ _ => id) (Or.inl ⟨by rfl, fun X hX => ?_⟩) hS ?_; rotate_left
  ·go_simp; exact rfl
  (try go_frame); refine' tk 10 _ (some 25) rfl rfl (by kernel_rfl) (fun _ _ _ => id) (Or.inl ⟨by rfl, fun X hX => ?_⟩) hS ?_; rotate_left
  ·go_simp; exact rfl
  (try go_frame); refine' tk 11 _ (some 26) rfl rfl (by kernel_rfl) (fun _ _ _ => id) (Or.inl ⟨by rfl, fun X hX => ?_⟩) hS ?_; rotate_left
  ·go_simp; exact rfl
  (try go_frame); refine' tk 12 _ (some 27) rfl rfl (by kernel_rfl) (fun _ _ _ => id) (Or.inl ⟨by rfl, fun X hX => ?_⟩) hS ?_; rotate_left
  ·go_simp; exact rfl
  (try go_frame); refine' tk 13 _ (some 28) rfl rfl (by kernel_rfl) (fun _ _ _ => id) (Or.inl ⟨by rfl, fun X hX => ?_⟩) hS ?_; rotate_left
  ·have h := (show Mod (fun _ => False) w X from hX).cellAt K31.out (fun h => h); go_simp; exact rfl
  (try go_frame); refine' tk 14 _ (some 29) rfl rfl (by kernel_rfl) (fun _ _ _ => id) (Or.inl ⟨by rfl, fun X hX => ?_⟩) hS ?_; rotate_left
  ·go_simp; exact rfl
  (try go_frame); refine' tk 15 _ (some 30) rfl rfl (by kernel_rfl) (fun _ _ _ => id) (Or.inl ⟨by rfl, fun X hX => ?_⟩) hS ?_; rotate_left
  ·go_simp; exact rfl
  (try go_frame); refine' tk 16 _ (some 31) rfl rfl (by kernel_rfl) (fun _ _ _ => id) (Or.inl ⟨by rfl, fun X hX => ?_⟩) hS ?_; rotate_left
  ·go_simp; exact rfl
  (try go_frame); refine' tk 17 _ (some 32) rfl rfl (by kernel_rfl) (fun _ _ _ => id) (Or.inl ⟨by rfl, fun X hX => ?_⟩) hS ?_; rotate_left
  ·go_simp; exact rfl
  (try go_frame); refine' tk 18 _ (some 33) rfl rfl (by kernel_rfl) (fun _ _ _ => id) (Or.inl ⟨by rfl, fun X hX => ?_⟩) hS ?_; rotate_left
  ·have h := (show Mod (fun _ => False) w X from hX).cellAt K2.out (fun h => h); go_simp; exact rfl
  (try go_frame); refine' tk 19 _ (some 34) rfl rfl (by kernel_rfl) (fun _ _ _ => id) (Or.inl ⟨by rfl, fun X hX => ?_⟩) hS ?_; rotate_left
  ·go_simp; exact rfl
  (try go_frame); refine wpAnyH_ready (rs := [5]) (by kernel_rfl) (by simp) ?_
  refine arH (o := ⟨some 20, _, _, _, _, some (3, false)⟩) rfl fun K hK => ?_
  go_simp
  refine (tops_any (HQ.out.still hS) HL.out HB.out).mono ?_
  rintro e w2 ⟨rfl, hM2⟩
  rw [HT.out]
  refine hK.out _ _ (Mod.trans hS hM2) (fun hS => ?_)
  clear hK K hM2
  refine' tk 7 _ (some 22) rfl rfl (by kernel_rfl) (fun _ _ _ => id) (Or.inl ⟨by rfl, fun X hX => ?_⟩) hS ?_; rotate_left
  ·go_simp; exact rfl
  (try go_frame); refine' tk 9 _ (some 24) rfl rfl (by kernel_rfl) (fun _ _ _ => id) (Or.inl ⟨by rfl, fun X hX => ?_⟩) hS ?_; rotate_left
  ·go_simp; exact rfl
  (try go_frame); refine' tk 20 _ (some 35) rfl rfl (by kernel_rfl) (fun _ _ _ => id) (Or.inl ⟨by rfl, fun X hX => ?_⟩) hS ?_; rotate_left
  ·go_simp; exact rfl
  (try go_frame); refine' tk 21 _ (some 36) rfl rfl (by kernel_rfl) (fun _ _ _ => id) (Or.inl ⟨by rfl, fun X hX => ?_⟩) hS ?_; rotate_left
  ·go_simp; exact rfl
  (try go_frame); refine' tk 22 _ (some 6) rfl rfl (by kernel_rfl) (fun _ _ _ => id) (Or.inl ⟨by rfl, fun X hX => ?_⟩) hS ?_; rotate_left
  ·go_simp; exact rfl
  (try go_frame); refine wpAnyH_done (by kernel_rfl) ?_ _
  go_wp2_with fail
  go_ret
  exact ⟨rfl, hS⟩
end Go.Proofs.YtahgidkpjmecdaaGreatDoor
