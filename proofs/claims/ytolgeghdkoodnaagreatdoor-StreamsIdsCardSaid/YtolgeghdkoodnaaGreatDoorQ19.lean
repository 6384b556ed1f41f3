/- Parts of the proof: StN StO StP StQ. -/
import Derived.Test.YtolgeghdkoodnaaGreatDoorQ03
import Derived.Test.YtolgeghdkoodnaaGreatDoorQ18
import Derived.Deep.QuietTactic
import Derived.BigQuiet
import Derived.Deep.RegionHeld
import Derived.Deep.RegionHeld3
set_option maxRecDepth 100000
namespace Go.Proofs.YtolgeghdkoodnaaGreatDoor
open Go.RowKit Go.Maps
def limT (T : Tb) (x i : Nat) : Tb := if i = 0 then T else if i = 1 then { T with lim0 := max T.lim0 x } else { T with lim0 := max T.lim0 x, lim1 := max T.lim1 x }
def maxS (M : Nat) (s : St) : St := { s with max := max s.max M }
def maxT (T : Tb) (M : Nat) (ss : List Int) : Tb := { T with m := fun z => if z ∈ ss then maxS M (T.m z) else T.m z }
def peerT (T : Tb) (p : Pm) : Tb := if mayB p then maxT (limT { T with data := max T.data p.d, stream := max T.stream p.s } (min p.n 40) 2) (max T.stream p.s) T.dom else T
theorem maxT_nil (T : Tb) (M : Nat) : maxT T M [] = T := by unfold maxT; simp
theorem maxT_congr (T : Tb) (M : Nat) {ss dd : List Int} (h : ∀ z, z ∈ ss ↔ z ∈ dd) : maxT T M ss = maxT T M dd := by
 unfold maxT
 congr 1
 funext z
 by_cases hz : z ∈ ss
 ·rw [if_pos hz, if_pos ((h z).1 hz)]
 ·rw [if_neg hz, if_neg (fun e => hz ((h z).2 e))]
theorem maxT_step (T : Tb) (M : Nat) {ss : List Int} {z : Int} (h : z ∉ ss) : ({ maxT T M ss with m := updM (maxT T M ss).m z (maxS M ((maxT T M ss).m z)) } : Tb) = maxT T M (ss ++ [z]) := by
 have e : updM (maxT T M ss).m z (maxS M ((maxT T M ss).m z)) = (maxT T M (ss ++ [z])).m := by
  funext y
  unfold maxT updM
  dsimp only
  by_cases hy : y = z
  ·subst hy; simp [h]
  ·by_cases hs : y ∈ ss <;> simp [hy, hs]
 rw [e]
 rfl
theorem SS_max (M : Nat) (g : SM) (s : St) : SS g (maxS M s) = SS g s := rfl
theorem TS_max (tb mb : Nat) (G : Int → SM) (T : Tb) (M : Nat) (ss : List Int) : ∀ k, TS tb mb G (maxT T M ss) k → TS tb mb G T k := by
 rintro k (h | h | ⟨z, hz, hk⟩)
 ·exact .inl h
 ·exact .inr (.inl h)
 ·refine .inr (.inr ⟨z, hz, ?_⟩)
  have hk2 : SS (G z) (if z ∈ ss then maxS M (T.m z) else T.m z) k := hk
  by_cases hs : z ∈ ss
  ·rw [if_pos hs, SS_max] at hk2; exact hk2
  ·rw [if_neg hs] at hk2; exact hk2
theorem TBuf.setData {B : Nat} {w : World} {tb mb : Nat} {G : Int → SM} {T : Tb} (q : TBuf B w tb mb G T) (n : Nat) (h : nat64 n) : TT B w (w.setCell ⟨tb, 30, none⟩ (.int .u64 (n : Int))) tb mb G G T { T with data := n } :=
 q.setTT { T with data := n } 8 (.int .u64 (n : Int)) rfl rfl rfl rfl rfl (by
  have hn := q.num
  exact ⟨hn.1, hn.2.1, hn.2.2.1, hn.2.2.2.1, hn.2.2.2.2.1, hn.2.2.2.2.2.1, hn.2.2.2.2.2.2.1, hn.2.2.2.2.2.2.2.1, hn.2.2.2.2.2.2.2.2.1, hn.2.2.2.2.2.2.2.2.2.1, hn.2.2.2.2.2.2.2.2.2.2.1, h, hn.2.2.2.2.2.2.2.2.2.2.2.2⟩)
theorem TBuf.setStream {B : Nat} {w : World} {tb mb : Nat} {G : Int → SM} {T : Tb} (q : TBuf B w tb mb G T) (n : Nat) (h : nat64 n) : TT B w (w.setCell ⟨tb, 29, none⟩ (.int .u64 (n : Int))) tb mb G G T { T with stream := n } :=
 q.setTT { T with stream := n } 7 (.int .u64 (n : Int)) rfl rfl rfl rfl rfl (by
  have hn := q.num
  exact ⟨hn.1, hn.2.1, hn.2.2.1, hn.2.2.2.1, hn.2.2.2.2.1, hn.2.2.2.2.2.1, hn.2.2.2.2.2.2.1, hn.2.2.2.2.2.2.2.1, hn.2.2.2.2.2.2.2.2.1, hn.2.2.2.2.2.2.2.2.2.1, h, hn.2.2.2.2.2.2.2.2.2.2.2⟩)
theorem TBuf.setLim0 {B : Nat} {w : World} {tb mb : Nat} {G : Int → SM} {T : Tb} (q : TBuf B w tb mb G T) (n : Nat) (h : n ≤ 40) : TT B w (w.setCell ⟨tb, 27, none⟩ (.int .u64 (n : Int))) tb mb G G T { T with lim0 := n } :=
 q.setTT { T with lim0 := n } 5 (.int .u64 (n : Int)) rfl rfl rfl rfl rfl (by
  have hn := q.num
  exact ⟨hn.1, hn.2.1, hn.2.2.1, hn.2.2.2.1, hn.2.2.2.2.1, hn.2.2.2.2.2.1, hn.2.2.2.2.2.2.1, hn.2.2.2.2.2.2.2.1, h, hn.2.2.2.2.2.2.2.2.2⟩)
theorem TBuf.setLim1 {B : Nat} {w : World} {tb mb : Nat} {G : Int → SM} {T : Tb} (q : TBuf B w tb mb G T) (n : Nat) (h : n ≤ 40) : TT B w (w.setCell ⟨tb, 28, none⟩ (.int .u64 (n : Int))) tb mb G G T { T with lim1 := n } :=
 q.setTT { T with lim1 := n } 6 (.int .u64 (n : Int)) rfl rfl rfl rfl rfl (by
  have hn := q.num
  exact ⟨hn.1, hn.2.1, hn.2.2.1, hn.2.2.2.1, hn.2.2.2.2.1, hn.2.2.2.2.2.1, hn.2.2.2.2.2.2.1, hn.2.2.2.2.2.2.2.1, hn.2.2.2.2.2.2.2.2.1, h, hn.2.2.2.2.2.2.2.2.2.2⟩)
theorem TT.drew {B : Nat} {w w1 : World} {tb mb : Nat} {G G1 : Int → SM} {T T1 : Tb} (h : TT B w w1 tb mb G G1 T T1) : TT B w w1.drew tb mb G G1 T T1 := h.trans (h.1.stay (Mod.refl _ _).drew)
theorem Blk.drew {w : World} {b : Nat} {cs : Array Value} {t : TypeId} (h : Blk w b cs t) : Blk w.drew b cs t := h.heap rfl
theorem IRange.at {K : TypeId} {q : IntKind} {w w' : World} {mb r cnt : Nat} {dom : List Int} {f : Int → Value} {left : Int → Bool} {b : Nat} (h : IRange K q w mb r dom f left cnt) (hM : Mod (fun k => k = b) w w') (h1 : mb ≠ b) (h2 : r ≠ b) : IRange K q w' mb r dom f left cnt := h.kept hM h1 h2
set_option maxHeartbeats 1000000 in
theorem tpeer_any {B : Nat} {w : World} {tb mb : Nat} {G : Int → SM} {T : Tb} (q : TBuf B w tb mb G T) {p : Pm} (hp : mayB p = true) (h16 : p.t.length = 16) :
  Calls Tryz.prog 10 #[.pointer (some ⟨tb, 0, none⟩), .agg (pmC p)] w fun e w' => e = .returned (.tuple #[]) ∧ TC B w w' tb mb G T (peerT T p) := by
 have HB := Lib.hid (PmB.new w p h16)
 have HM := Lib.hid (fun W => may_any h16 W)
 rw [hp] at HM
 unfold pmV at HM
 have HM0 : Hid (Mod (fun _ => False) w (w.alloc (.cells (pmC p) 29))) := Lib.hid ((Mod.refl _ _).alloc _)
 have HL : Hid ((Instr.loadAt 29 (.pointer (some ⟨w.heap.size, 0, none⟩))).run Tryz.prog (w.alloc (.cells (pmC p) 29)) = .ok (.agg (pmC p)) (w.alloc (.cells (pmC p) 29))) := Lib.hid (run_loadAt_mid _ _ 0 29 (pmC p).toList _ HB.out.blk.whole Tryz.underlying29 rfl (size25 p h16))
 have HQ := Lib.hid q
 have HP := Lib.hid hp
 have H16 := Lib.hid h16
 have hb : w.heap.size ≠ tb := fun e => by have := q.blk.lt; omega
 have HNE := Lib.hid hb
 clear q hp h16 hb
 go_enter Tryz.func10, Tryz.ntmps10
 go_wp2_with (first
  | ((with_reducible refine wpList_load_g 29 (.tmp 3) ?_ ?_ (.pointer (some ⟨w.heap.size, 0, none⟩)) (.agg (pmC p)) ?_ HL.out ?_); (· exact rfl); (· exact rfl); (· exact rfl))
  | (go_at_call 27; (with_reducible refine (HM.out _).mono ?_); rintro e w1 ⟨rfl, hm⟩; have HMW := Lib.hid (HM0.out.trans hm); have HB1 := Lib.hid (hm.blk HB.out.blk (fun h => h)); clear hm)
  | fail)
 have d1 : w1.cell? ⟨w.heap.size, 1, none⟩ = some (.int .u64 (p.d : Int)) := HB1.out.cellAt 1 rfl
 have d2 : w1.cell? ⟨w.heap.size, 2, none⟩ = some (.int .u64 (p.s : Int)) := HB1.out.cellAt 2 rfl
 have HQ1 := Lib.hid (HQ.out.still HMW.out)
 have k8 : w1.cell? ⟨tb, 30, none⟩ = some (.int .u64 (T.data : Int)) := HQ1.out.cell 8 rfl
 have k7 : w1.cell? ⟨tb, 29, none⟩ = some (.int .u64 (T.stream : Int)) := HQ1.out.cell 7 rfl
 have g8 : w1.frozen? ⟨tb, 30, none⟩ = false := HQ1.out.blk.free 30
 have g7 : w1.frozen? ⟨tb, 29, none⟩ = false := HQ1.out.blk.free 29
 have ne1 : ¬ w.heap.size = tb := HNE.out
 have ne2 : ¬ tb = w.heap.size := fun e => HNE.out e.symm
 go_region
 have hpn := may_num HP.out
 have hnum := HQ1.out.num
 have m8 : max (T.data : Int) (p.d : Int) = ((max T.data p.d : Nat) : Int) := by omega
 have m7 : max (T.stream : Int) (p.s : Int) = ((max T.stream p.s : Nat) : Int) := by omega
 have x8 : nat64 (max T.data p.d) := by have := hnum.2.2.2.2.2.2.2.2.2.2.2.1; unfold nat64 at *; omega
 have x7 : nat64 (max T.stream p.s) := by have := hnum.2.2.2.2.2.2.2.2.2.2.1; unfold nat64 at *; omega
 rw [m8, m7]
 have t1 := HQ1.out.setData (max T.data p.d) x8
 have t2 := t1.trans (t1.1.setStream (max T.stream p.s) x7)
 have HT2 := Lib.hid (((HQ.out.stay HMW.out).trans t2).drew)
 have HB2 := Lib.hid (((HB1.out.setOther (a := ⟨tb, 30, none⟩) HNE.out (.int .u64 ((max T.data p.d : Nat) : Int))).setOther (a := ⟨tb, 29, none⟩) HNE.out (.int .u64 ((max T.stream p.s : Nat) : Int))).drew)
 have HTN : Hid (min p.n 40 ≤ 40) := Lib.hid (Nat.min_le_right _ _)
 have mn : min (p.n : Int) 40 = ((min p.n 40 : Nat) : Int) := by omega
 clear hpn hnum m8 m7 x8 x7 t1 t2 k8 k7 g8 g7 d1 d2
 generalize ((w1.setCell ⟨tb, 30, none⟩ (.int .u64 ((max T.data p.d : Nat) : Int))).setCell ⟨tb, 29, none⟩ (.int .u64 ((max T.stream p.s : Nat) : Int))).drew = W2 at *
 generalize hx : min p.n 40 = x at *
 have HX := Lib.hid hx
 clear hx
 go_wp2_with fail
 go_loopw [34] (fun s34 wr => ∃ i : Nat, i ≤ 2 ∧ s34 = .int .i64 i ∧ Hid (TT B w wr tb mb G G T (limT { T with data := max T.data p.d, stream := max T.stream p.s } x i) ∧ Blk wr w.heap.size (pmC p) 29)) (fun s34 _ => 2 - (intOf s34).toNat)
 case atStart => exact ⟨0, by omega, rfl, Lib.hid ⟨HT2.out, HB2.out⟩⟩
 case round =>
  obtain ⟨i, hi, rfl, HI⟩ := hrel
  have d3 : wr.cell? ⟨w.heap.size, 3, none⟩ = some (.int .u64 (p.n : Int)) := HI.out.2.cellAt 3 rfl
  obtain rfl | rfl | rfl : i = 0 ∨ i = 1 ∨ i = 2 := by omega
  ·have k5 : wr.cell? ⟨tb, 27, none⟩ = some (.int .u64 (T.lim0 : Int)) := HI.out.1.1.cell 5 rfl
   have g5 : wr.frozen? ⟨tb, 27, none⟩ = false := HI.out.1.1.blk.free 27
   have mm : max (T.lim0 : Int) (x : Int) = ((max T.lim0 x : Nat) : Int) := by omega
   have hl : max T.lim0 x ≤ 40 := by have := HTN.out; have := HQ.out.num.2.2.2.2.2.2.2.2.1; omega
   have HTX := Lib.hid ((HI.out.1.trans (HI.out.1.1.setLim0 (max T.lim0 x) hl)).drew)
   have HBX := Lib.hid ((HI.out.2.setOther (a := ⟨tb, 27, none⟩) HNE.out (.int .u64 ((max T.lim0 x : Nat) : Int))).drew)
   clear hl
   generalize ((max T.lim0 x : Nat) : Int) = y at *
   go_wp2_with fail
   go_region
   all_goals go_wp2_with fail
   go_roundw
   case rel => exact ⟨1, by omega, rfl, Lib.hid ⟨HTX.out, HBX.out⟩⟩
   case measure => simp [intOf]
  ·have k5 : wr.cell? ⟨tb, 28, none⟩ = some (.int .u64 (T.lim1 : Int)) := HI.out.1.1.cell 6 rfl
   have g5 : wr.frozen? ⟨tb, 28, none⟩ = false := HI.out.1.1.blk.free 28
   have mm : max (T.lim1 : Int) (x : Int) = ((max T.lim1 x : Nat) : Int) := by omega
   have hl : max T.lim1 x ≤ 40 := by have := HTN.out; have := HQ.out.num.2.2.2.2.2.2.2.2.2.1; omega
   have HTX := Lib.hid ((HI.out.1.trans (HI.out.1.1.setLim1 (max T.lim1 x) hl)).drew)
   have HBX := Lib.hid ((HI.out.2.setOther (a := ⟨tb, 28, none⟩) HNE.out (.int .u64 ((max T.lim1 x : Nat) : Int))).drew)
   clear hl
   generalize ((max T.lim1 x : Nat) : Int) = y at *
   go_wp2_with fail
   go_region
   all_goals go_wp2_with fail
   go_roundw
   case rel => exact ⟨2, by omega, rfl, Lib.hid ⟨HTX.out, HBX.out⟩⟩
   case measure => simp [intOf]
  ·have cm := HI.out.1.1.mapc
   obtain ⟨w0, hr0, hrg0, hM0⟩ := HI.out.1.1.map.range Tryz.underlying26 (t := 72) Tryz.underlying72
   have HR0 := Lib.hid hrg0
   have HMR := Lib.hid hM0
   have hwr : w.heap.size ≤ wr.heap.size := HI.out.1.2.2.size
   clear hrg0 hM0
   generalize hr : wr.heap.size = r at *
   have HRR := Lib.hid hwr
   clear hr hwr
   go_wp2_with fail
   go_loopw [6] (fun _ wq => ∃ (left : Int → Bool) (cnt : Nat) (ss : List Int), Hid (IRange 26 .u64 wq mb r T.dom (fun z => .pointer (some ⟨(G z).sb, 0, none⟩)) left cnt ∧ Come T.dom left ss ∧ TT B w wq tb mb G G T (maxT (limT { T with data := max T.data p.d, stream := max T.stream p.s } x 2) (max T.stream p.s) ss)))
    (fun _ wq => wq.rangeLeft mb r)
   case atStart =>
    refine ⟨_, _, [], Lib.hid ⟨HR0.out, Come.start _, ?_⟩⟩
    rw [maxT_nil]
    exact HI.out.1.trans (HI.out.1.1.stay HMR.out)
   case round =>
    obtain ⟨left, cnt, ss, HJ⟩ := hrel
    rcases HJ.out.1.next Tryz.underlying26 0 with ⟨h0, hl0, hx⟩ | ⟨z, w2, cnt2, hlz, hx, hrg2, hlt, hM2, hsz, hen⟩
    ·have HE := Lib.hid (maxT_congr (limT { T with data := max T.data p.d, stream := max T.stream p.s } x 2) (max T.stream p.s) (ss := ss) (dd := T.dom) (fun z => by rw [HJ.out.2.1.2 z, hl0]; simp))
     clear hl0 h0
     go_wp2_with fail
     refine bodyPost_end (results_none rfl _ _ _) rfl ?_
     refine ⟨rfl, ?_⟩
     unfold peerT
     rw [if_pos HP.out, HX.out, ← HE.out]
     exact HJ.out.2.2.tc
    ·have hzd := HJ.out.1.dom z hlz
     have hzs : z ∉ ss := fun h => by have := ((HJ.out.2.1.2 z).1 h).2; rw [hlz] at this; cases this
     have HC2 := Lib.hid (HJ.out.2.1.step hlz hzd)
     have HLT := Lib.hid (And.intro hlt HJ.out.1.left_eq)
     have hold : ∀ k, TS tb mb G (maxT (limT { T with data := max T.data p.d, stream := max T.stream p.s } x 2) (max T.stream p.s) ss) k → k < w.heap.size := fun k hk => (HQ.out.lt k (TS_max _ _ _ _ _ _ k hk)).2
     have hT2 : TT B w w2 tb mb G G T (maxT (limT { T with data := max T.data p.d, stream := max T.stream p.s } x 2) (max T.stream p.s) ss) :=
      ⟨HJ.out.2.2.1.kept hM2 (fun k hk e => by have := hold k hk; have := HRR.out; omega), fun k hk => (HJ.out.2.2.2.1 k hk).imp_right (fun h => ⟨h.1, Nat.lt_of_lt_of_le h.2 hM2.size⟩), HJ.out.2.2.2.2.trans' hM2 (fun k hk e => by have := HRR.out; omega)⟩
     have hs := hT2.1.strs z hzd
     have hsbo := hold _ (.inr (.inr ⟨z, hzd, .inl rfl⟩))
     have hsc := hs.cell 2 (.int .u64 ((max ((maxT (limT { T with data := max T.data p.d, stream := max T.stream p.s } x 2) (max T.stream p.s) ss).m z).max (max T.stream p.s) : Nat) : Int)) (s' := maxS (max T.stream p.s) ((maxT (limT { T with data := max T.data p.d, stream := max T.stream p.s } x 2) (max T.stream p.s) ss).m z)) rfl rfl rfl (fun _ => rfl) (by
      have h1 := hs.num
      have h2 := HJ.out.2.2.1.num.2.2.2.2.2.2.2.2.2.2.1
      refine ⟨?_, h1.2⟩
      have h3 : nat64 (max T.stream p.s) := h2
      have h4 := h1.1
      show nat64 (max _ _)
      unfold nat64 at *
      omega)
     have hT3 := (hT2.trans (SC.tt hT2.1 hzd hsc)).drew
     rw [maxT_step _ _ hzs] at hT3
     have c2 : w2.cell? ⟨(G z).sb, 2, none⟩ = some (.int .u64 (((maxT (limT { T with data := max T.data p.d, stream := max T.stream p.s } x 2) (max T.stream p.s) ss).m z).max : Int)) := hs.blk.cellAt 2 rfl
     have f2 : w2.frozen? ⟨(G z).sb, 2, none⟩ = false := hs.blk.free 2
     have k7 : w2.cell? ⟨tb, 29, none⟩ = some (.int .u64 ((max T.stream p.s : Nat) : Int)) := hT2.1.cell 7 rfl
     have hsm : (G z).sb ≠ mb := (hT2.1.tops z hzd _ (.inl rfl)).2
     have hst : ¬ (G z).sb = tb := (hT2.1.tops z hzd _ (.inl rfl)).1
     have hst2 : ¬ tb = (G z).sb := fun e => hst e.symm
     have hrg3 := (hrg2.at (b := (G z).sb) ((Mod.refl (fun k => k = (G z).sb) _).setCell (p := ⟨(G z).sb, 2, none⟩) (fun _ => rfl) (.int .u64 ((max ((maxT (limT { T with data := max T.data p.d, stream := max T.stream p.s } x 2) (max T.stream p.s) ss).m z).max (max T.stream p.s) : Nat) : Int))) (fun e => hsm e.symm) (fun e => by have := HRR.out; omega)).kept (S := fun _ => False) ((Mod.refl _ _).drew) (fun h => h) (fun h => h)
     have mm : max (((maxT (limT { T with data := max T.data p.d, stream := max T.stream p.s } x 2) (max T.stream p.s) ss).m z).max : Int) ((max T.stream p.s : Nat) : Int) = ((max ((maxT (limT { T with data := max T.data p.d, stream := max T.stream p.s } x 2) (max T.stream p.s) ss).m z).max (max T.stream p.s) : Nat) : Int) := by omega
     have HT3 := Lib.hid hT3
     have HR3 := Lib.hid hrg3
     clear hT3 hrg3 hs hsc hT2 hold hsbo hzd hzs hlz hlt hrg2 hM2 hsm
     generalize ((max ((maxT (limT { T with data := max T.data p.d, stream := max T.stream p.s } x 2) (max T.stream p.s) ss).m z).max (max T.stream p.s) : Nat) : Int) = y at *
     generalize (((maxT (limT { T with data := max T.data p.d, stream := max T.stream p.s } x 2) (max T.stream p.s) ss).m z).max : Int) = y2 at *
     generalize ((max T.stream p.s : Nat) : Int) = y3 at *
     go_wp2_with fail
     go_region
     all_goals go_wp2_with fail
     go_roundw
     case rel => exact ⟨_, cnt2, ss ++ [z], Lib.hid ⟨HR3.out, HC2.out, HT3.out⟩⟩
     case measure => rw [HR3.out.left_eq, HLT.out.2]; exact HLT.out.1
end Go.Proofs.YtolgeghdkoodnaaGreatDoor
set_option maxRecDepth 100000
namespace Go.Proofs.YtolgeghdkoodnaaGreatDoor
open Go.RowKit Go.Maps
def findE (T : Tb) (id : Nat) (out : Bool) : Int := if (oneWay id && (mineB T.client id != out)) = true then 8 else if (id : Int) ∈ T.dom then 0 else if mineB T.client id = true then 8 else if (T.own.n : Int) ≤ (id : Int) / 4 then 4 else 0
def findV (G : Int → SM) (T : Tb) (id : Nat) (out : Bool) : Value := if findE T id out = 0 ∧ (id : Int) ∈ T.dom then .pointer (some ⟨(G id).sb, 0, none⟩) else .pointer none
theorem find_any {B : Nat} {w : World} {tb mb : Nat} {G : Int → SM} {T : Tb} (q : TBuf B w tb mb G T) {id : Nat} (hi : okId id) (out : Bool) :
  Calls Tryz.prog 147 #[.pointer (some ⟨tb, 0, none⟩), .int .u64 (id : Int), .bool out] w fun e w' => w = w' ∧ e = .returned (.tuple #[findV G T id out, .int .i64 (findE T id out)]) := by
 have cm := q.mapc
 have hl := q.look hi
 have cn : w.cell? ⟨tb, 4, none⟩ = some (.int .u64 (T.own.n : Int)) := q.blk.cellAt 4 rfl
 have hb2 : bits .and .u64 (id : Int) 2 = if oneWay id then 2 else 0 := by
  rw [and2 hi]
  rcases and2_cases id with ⟨h1, h2⟩ | ⟨h1, h2⟩ <;> rw [h1, h2] <;> rfl
 have HM := Lib.hid (mine_any q hi)
 have hp : (0 : Int) ≤ (id : Int) := by omega
 have td : IntKind.u64.wrap ((id : Int).tdiv 4) = (id : Int) / 4 := by
  rw [Int.tdiv_eq_ediv_of_nonneg hp]
  unfold okId at hi
  exact IntWalk.u64_in _ (by omega)
 clear q
 obtain ⟨V, hV⟩ : ∃ V, V = findV G T id out := ⟨_, rfl⟩
 obtain ⟨E, hE⟩ : ∃ E, E = findE T id out := ⟨_, rfl⟩
 rw [← hV, ← hE]
 unfold findV findE at hV
 unfold findE at hE
 have HV := Lib.hid hV
 have HE := Lib.hid hE
 clear hV hE
 by_cases hd : (id : Int) ∈ T.dom
 ·rw [if_pos hd] at hl
  have HD := Lib.hid hd
  cases hw : oneWay id <;> cases hm : mineB T.client id <;> cases out <;> (
   rw [hm] at HM
   rw [hw] at hb2
   have HW := Lib.hid (And.intro hw hm)
   simp only [if_true, if_false, Bool.false_eq_true] at hb2
   clear hd hm hw hi
   generalize hz : (id : Int) = z at *
   have HZ := Lib.hid hz
   clear hz
   go_enter Tryz.func147, Tryz.ntmps147
   go_wp2_with (first
    | (go_at_call 56; (with_reducible refine HM.out.mono ?_); rintro e w1 ⟨rfl, rfl⟩)
    | fail)
   go_ret2
   have hd := HD.out
   refine ⟨rfl, ?_⟩
   rw [HV.out, HE.out]
   simp [hd, HW.out.1, HW.out.2])
 ·rw [if_neg hd] at hl
  have HD := Lib.hid hd
  by_cases hn : (T.own.n : Int) ≤ (id : Int) / 4
  ·have tn := decide_eq_true hn
   cases hw : oneWay id <;> cases hm : mineB T.client id <;> cases out <;> (
    rw [hm] at HM
    rw [hw] at hb2
    have HW := Lib.hid (And.intro hw hm)
    simp only [if_true, if_false, Bool.false_eq_true] at hb2
    have HN := Lib.hid hn
    clear hd hm hw hi hn hp
    generalize (id : Int) / 4 = y at *
    generalize hz : (id : Int) = z at *
    have HZ := Lib.hid hz
    clear hz
    go_enter Tryz.func147, Tryz.ntmps147
    go_wp2_with (first
     | (go_at_call 56; (with_reducible refine HM.out.mono ?_); rintro e w1 ⟨rfl, rfl⟩)
     | fail)
    go_ret2
    have hd := HD.out
    refine ⟨rfl, ?_⟩
    rw [HV.out, HE.out]
    simp [hd, HN.out, HW.out.1, HW.out.2])
  ·have tn := decide_eq_false hn
   cases hw : oneWay id <;> cases hm : mineB T.client id <;> cases out <;> (
    rw [hm] at HM
    rw [hw] at hb2
    have HW := Lib.hid (And.intro hw hm)
    simp only [if_true, if_false, Bool.false_eq_true] at hb2
    have HN := Lib.hid hn
    clear hd hm hw hi hn hp
    generalize (id : Int) / 4 = y at *
    generalize hz : (id : Int) = z at *
    have HZ := Lib.hid hz
    clear hz
    go_enter Tryz.func147, Tryz.ntmps147
    go_wp2_with (first
     | (go_at_call 56; (with_reducible refine HM.out.mono ?_); rintro e w1 ⟨rfl, rfl⟩)
     | fail)
    go_ret2
    have hd := HD.out
    refine ⟨rfl, ?_⟩
    rw [HV.out, HE.out]
    simp [hd, HN.out, HW.out.1, HW.out.2])
end Go.Proofs.YtolgeghdkoodnaaGreatDoor
set_option maxRecDepth 100000
namespace Go.Proofs.YtolgeghdkoodnaaGreatDoor
open Go.RowKit Go.Maps
def wasN (T : Tb) (z : Option Int) : Nat := match z with | none => 0 | some z => topS (T.m z)
def ptrZ (G : Int → SM) (z : Option Int) : Value := match z with | none => .pointer none | some z => .pointer (some ⟨(G z).sb, 0, none⟩)
def risesB (T : Tb) (z : Option Int) (E : Nat) : Bool := decide (E ≤ wasN T z) || decide (topsN T + E - wasN T z ≤ T.read + T.own.d)
theorem part_none {B : Nat} {w : World} {tb mb : Nat} {G : Int → SM} {T : Tb} (q : TBuf B w tb mb G T) : Calls Tryz.prog 149 #[.pointer (some ⟨tb, 0, none⟩), .pointer none] w fun e w' => INew w w' T.own.s e := by
 have c3 := q.own3.1
 have us : IntKind.i64.wrap (T.own.s : Int) = (T.own.s : Int) := IntWalk.i64_in _ (by have := q.num.2.2.1; omega)
 have HIN := Lib.hid (inew_any w T.own.s (by have := q.num.2.2.1; omega))
 clear q
 go_enter Tryz.func149, Tryz.ntmps149
 go_wp2_with (first
  | (go_at_call 58; (with_reducible refine HIN.out.mono ?_); rintro e w1 ⟨ib, mbi, rfl, hO, hM⟩; have HO := Lib.hid (And.intro hO hM); clear hO hM)
  | fail)
 go_ret
 exact ⟨ib, mbi, rfl, HO.out⟩
theorem part_some {B : Nat} {w : World} {g : SM} {s : St} (q : SBuf B w g s) {o : IB} (ho : s.inn = some o) (t : Value) : Calls Tryz.prog 149 #[t, .pointer (some ⟨g.sb, 0, none⟩)] w fun e w' => w = w' ∧ e = .returned (.pointer (some ⟨g.ib, 0, none⟩)) := by
 have c1 := q.ptrs.2.1
 rw [ho] at c1
 unfold ptrI at c1
 clear q ho
 go_enter Tryz.func149, Tryz.ntmps149
 go_wp2_with fail
 go_ret
 exact ⟨rfl, rfl⟩
set_option maxHeartbeats 1000000 in
theorem rises_none {B : Nat} {w : World} {tb mb : Nat} {G : Int → SM} {T : Tb} (q : TBuf B w tb mb G T) (hl : T.dom.length ≤ 1000) (hb : ∀ z ∈ T.dom, topS (T.m z) ≤ 1000000) (E : Nat) (hE : (E : Int) ≤ 4611686018427387904) (hr : T.read ≤ 2000000000) :
  Calls Tryz.prog 148 #[.pointer (some ⟨tb, 0, none⟩), .pointer none, .int .u64 (E : Int)] w fun e w' => e = .returned (.bool (risesB T (none) E)) ∧ Mod (fun _ => False) w w' := by
 have HQ := Lib.hid q
 have HL := Lib.hid hl
 have HB := Lib.hid hb
 have K31 : Hid (w.cell? ⟨tb, 31, none⟩ = some (.int .u64 (T.read : Int))) := Lib.hid (q.cell 9 rfl)
 have K2 : Hid (w.cell? ⟨tb, 2, none⟩ = some (.int .u64 (T.own.d : Int))) := Lib.hid (q.blk.cellAt 2 rfl)
 have hd := q.num.2.1
 have htn : topsN T ≤ 1000000000 := by
  have := sumOn_le (fun z => topS (T.m z)) 1000000 T.dom hb
  unfold topsN
  omega
 obtain ⟨W, hW⟩ : ∃ W : Int, (wasN T (none) : Int) = W := ⟨_, rfl⟩
 have hW0 : 0 ≤ W := by omega
 have HR : Hid (risesB T (none) E = (decide ((E : Int) ≤ W) || decide ((topsN T : Int) + (E : Int) - W ≤ (T.read : Int) + (T.own.d : Int)))) := Lib.hid (by
  unfold risesB
  by_cases h1 : E ≤ wasN T (none)
  ·rw [decide_eq_true h1, decide_eq_true (show (E : Int) ≤ W by omega)]; rfl
  ·rw [decide_eq_false h1, decide_eq_false (show ¬ (E : Int) ≤ W by omega)]
   congr 1
   exact decide_eq_decide.2 (by omega))
 rw [HR.out]
 have hWz : W = 0 := by rw [← hW]; rfl
 subst hWz
 clear hW0
 have u1 : IntKind.u64.wrap ((topsN T : Int) + (E : Int)) = (topsN T : Int) + (E : Int) := IntWalk.u64_in _ (by omega)
 have u3 : IntKind.u64.wrap ((T.read : Int) + (T.own.d : Int)) = (T.read : Int) + (T.own.d : Int) := IntWalk.u64_in _ (by omega)
 by_cases h1 : (E : Int) ≤ 0
 ·have t1 : decide ((E : Int) ≤ 0) = true := decide_eq_true h1
  rw [t1]
  clear q hl hb hd htn hr hE h1 u1 u3 hW
  generalize (E : Int) = e0 at *
  go_enter Tryz.func148, Tryz.ntmps148
  go_wp2_with fail
  go_quiet (fail)
  go_wp2_with fail
  go_ret
  exact ⟨rfl, (Mod.refl _ _).drewN _⟩
 ·have t1 : decide ((E : Int) ≤ 0) = false := decide_eq_false h1
  have u2 : IntKind.u64.wrap ((topsN T : Int) + (E : Int) - 0) = (topsN T : Int) + (E : Int) - 0 := IntWalk.u64_in _ (by omega)
  obtain ⟨t0, ht0⟩ : ∃ t0 : Int, (topsN T : Int) = t0 := ⟨_, rfl⟩
  have HT := Lib.hid ht0
  rw [t1]
  rw [ht0] at u1 u2 ⊢
  clear q hl hb hd htn hr hE h1 hW ht0
  generalize (E : Int) = e0 at *
  generalize (T.read : Int) = r0 at *
  generalize (T.own.d : Int) = d0 at *
  go_enter Tryz.func148, Tryz.ntmps148
  go_upto_region 4 with fail
  refine wp_region_held_drew (S := fun X => Mod (fun _ => False) w X) (by kernel_rfl) (Mod.refl _ _).drew (fun hS => ?_)
  refine' takeH (i := 0) (v := _) (some 15) rfl rfl (by kernel_rfl) (by kernel_rfl) (by kernel_rfl) (fun _ _ _ h => h) (Or.inl ⟨by rfl, fun X hX => ?_⟩) hS ?_
  rotate_left
  ·go_simp; exact rfl
  (try go_frame)
  refine' takeH (i := 1) (v := _) (some 16) rfl rfl (by kernel_rfl) (by kernel_rfl) (by kernel_rfl) (fun _ _ _ h => h) (Or.inl ⟨by rfl, fun X hX => ?_⟩) hS ?_
  rotate_left
  ·go_simp; exact rfl
  (try go_frame)
  refine' takeH (i := 2) (v := _) (some 17) rfl rfl (by kernel_rfl) (by kernel_rfl) (by kernel_rfl) (fun _ _ _ h => h) (Or.inl ⟨by rfl, fun X hX => ?_⟩) hS ?_
  rotate_left
  ·go_simp; exact rfl
  (try go_frame)
  refine' takeH (i := 3) (v := _) (some 18) rfl rfl (by kernel_rfl) (by kernel_rfl) (by kernel_rfl) (fun _ _ _ h => h) (Or.inl ⟨by rfl, fun X hX => ?_⟩) hS ?_
  rotate_left
  ·go_simp; exact rfl
  (try go_frame)
  refine' takeH (i := 4) (v := _) (some 19) rfl rfl (by kernel_rfl) (by kernel_rfl) (by kernel_rfl) (fun _ _ _ h => h) (Or.inl ⟨by rfl, fun X hX => ?_⟩) hS ?_
  rotate_left
  ·go_simp; exact rfl
  (try go_frame)
  refine' takeH (i := 6) (v := _) (some 21) rfl rfl (by kernel_rfl) (by kernel_rfl) (by kernel_rfl) (fun _ _ _ h => h) (Or.inl ⟨by rfl, fun X hX => ?_⟩) hS ?_
  rotate_left
  ·go_simp; exact rfl
  (try go_frame)
  refine' takeH (i := 8) (v := _) (some 23) rfl rfl (by kernel_rfl) (by kernel_rfl) (by kernel_rfl) (fun _ _ _ h => h) (Or.inl ⟨by rfl, fun X hX => ?_⟩) hS ?_
  rotate_left
  ·go_simp; exact rfl
  (try go_frame)
  refine' takeH (i := 10) (v := _) (some 25) rfl rfl (by kernel_rfl) (by kernel_rfl) (by kernel_rfl) (fun _ _ _ h => h) (Or.inl ⟨by rfl, fun X hX => ?_⟩) hS ?_
  rotate_left
  ·go_simp; exact rfl
  (try go_frame)
  refine' takeH (i := 11) (v := _) (some 26) rfl rfl (by kernel_rfl) (by kernel_rfl) (by kernel_rfl) (fun _ _ _ h => h) (Or.inl ⟨by rfl, fun X hX => ?_⟩) hS ?_
  rotate_left
  ·go_simp; exact rfl
  (try go_frame)
  refine' takeH (i := 12) (v := _) (some 27) rfl rfl (by kernel_rfl) (by kernel_rfl) (by kernel_rfl) (fun _ _ _ h => h) (Or.inl ⟨by rfl, fun X hX => ?_⟩) hS ?_
  rotate_left
  ·go_simp; exact rfl
  (try go_frame)
  refine' takeH (i := 13) (v := _) (some 28) rfl rfl (by kernel_rfl) (by kernel_rfl) (by kernel_rfl) (fun _ _ _ h => h) (Or.inl ⟨by rfl, fun X hX => ?_⟩) hS ?_
  rotate_left
  ·have h := (show Mod (fun _ => False) w X from hX).cellAt K31.out (fun h => h); go_simp; exact rfl
  (try go_frame)
  refine' takeH (i := 14) (v := _) (some 29) rfl rfl (by kernel_rfl) (by kernel_rfl) (by kernel_rfl) (fun _ _ _ h => h) (Or.inl ⟨by rfl, fun X hX => ?_⟩) hS ?_
  rotate_left
  ·go_simp; exact rfl
  (try go_frame)
  refine' takeH (i := 15) (v := _) (some 30) rfl rfl (by kernel_rfl) (by kernel_rfl) (by kernel_rfl) (fun _ _ _ h => h) (Or.inl ⟨by rfl, fun X hX => ?_⟩) hS ?_
  rotate_left
  ·go_simp; exact rfl
  (try go_frame)
  refine' takeH (i := 16) (v := _) (some 31) rfl rfl (by kernel_rfl) (by kernel_rfl) (by kernel_rfl) (fun _ _ _ h => h) (Or.inl ⟨by rfl, fun X hX => ?_⟩) hS ?_
  rotate_left
  ·go_simp; exact rfl
  (try go_frame)
  refine' takeH (i := 17) (v := _) (some 32) rfl rfl (by kernel_rfl) (by kernel_rfl) (by kernel_rfl) (fun _ _ _ h => h) (Or.inl ⟨by rfl, fun X hX => ?_⟩) hS ?_
  rotate_left
  ·go_simp; exact rfl
  (try go_frame)
  refine' takeH (i := 18) (v := _) (some 33) rfl rfl (by kernel_rfl) (by kernel_rfl) (by kernel_rfl) (fun _ _ _ h => h) (Or.inl ⟨by rfl, fun X hX => ?_⟩) hS ?_
  rotate_left
  ·have h := (show Mod (fun _ => False) w X from hX).cellAt K2.out (fun h => h); go_simp; exact rfl
  (try go_frame)
  refine' takeH (i := 19) (v := _) (some 34) rfl rfl (by kernel_rfl) (by kernel_rfl) (by kernel_rfl) (fun _ _ _ h => h) (Or.inl ⟨by rfl, fun X hX => ?_⟩) hS ?_
  rotate_left
  ·go_simp; exact rfl
  (try go_frame)
  refine wpAnyH_ready (rs := [5]) (by kernel_rfl) (by simp) ?_
  refine (AllReadyH.cons (o := ⟨some 20, _, _, _, _, some (3, false)⟩) rfl (fun K hK => ?_) AllReadyH.nil)
  go_simp
  refine (tops_any (HQ.out.still hS) HL.out HB.out).mono ?_
  rintro e w2 ⟨rfl, hM2⟩
  rw [HT.out]
  refine hK.out _ _ (Mod.trans hS hM2) (fun hS => ?_)
  clear hK K hM2
  refine' takeH (i := 7) (v := _) (some 22) rfl rfl (by kernel_rfl) (by kernel_rfl) (by kernel_rfl) (fun _ _ _ h => h) (Or.inl ⟨by rfl, fun X hX => ?_⟩) hS ?_
  rotate_left
  ·go_simp; exact rfl
  (try go_frame)
  refine' takeH (i := 9) (v := _) (some 24) rfl rfl (by kernel_rfl) (by kernel_rfl) (by kernel_rfl) (fun _ _ _ h => h) (Or.inl ⟨by rfl, fun X hX => ?_⟩) hS ?_
  rotate_left
  ·go_simp; exact rfl
  (try go_frame)
  refine' takeH (i := 20) (v := _) (some 35) rfl rfl (by kernel_rfl) (by kernel_rfl) (by kernel_rfl) (fun _ _ _ h => h) (Or.inl ⟨by rfl, fun X hX => ?_⟩) hS ?_
  rotate_left
  ·go_simp; exact rfl
  (try go_frame)
  refine' takeH (i := 21) (v := _) (some 36) rfl rfl (by kernel_rfl) (by kernel_rfl) (by kernel_rfl) (fun _ _ _ h => h) (Or.inl ⟨by rfl, fun X hX => ?_⟩) hS ?_
  rotate_left
  ·go_simp; exact rfl
  (try go_frame)
  refine' takeH (i := 22) (v := _) (some 6) rfl rfl (by kernel_rfl) (by kernel_rfl) (by kernel_rfl) (fun _ _ _ h => h) (Or.inl ⟨by rfl, fun X hX => ?_⟩) hS ?_
  rotate_left
  ·go_simp; exact rfl
  (try go_frame)
  refine wpAnyH_done (by kernel_rfl) ?_ _
  go_wp2_with fail
  go_ret
  simp only [Int.sub_zero]
  exact ⟨rfl, hS⟩
set_option maxHeartbeats 1000000 in
theorem rises_some {B : Nat} {w : World} {tb mb : Nat} {G : Int → SM} {T : Tb} (q : TBuf B w tb mb G T) (hl : T.dom.length ≤ 1000) (hb : ∀ z ∈ T.dom, topS (T.m z) ≤ 1000000) {z : Int} (hz : z ∈ T.dom) {o : IB} (ho : (T.m z).inn = some o) (E : Nat) (hE : (E : Int) ≤ 4611686018427387904) (hr : T.read ≤ 2000000000) :
  Calls Tryz.prog 148 #[.pointer (some ⟨tb, 0, none⟩), .pointer (some ⟨(G z).sb, 0, none⟩), .int .u64 (E : Int)] w fun e w' => e = .returned (.bool (risesB T (some z) E)) ∧ Mod (fun _ => False) w w' := by
 have HQ := Lib.hid q
 have HL := Lib.hid hl
 have HB := Lib.hid hb
 have K31 : Hid (w.cell? ⟨tb, 31, none⟩ = some (.int .u64 (T.read : Int))) := Lib.hid (q.cell 9 rfl)
 have K2 : Hid (w.cell? ⟨tb, 2, none⟩ = some (.int .u64 (T.own.d : Int))) := Lib.hid (q.blk.cellAt 2 rfl)
 have hd := q.num.2.1
 have htn : topsN T ≤ 1000000000 := by
  have := sumOn_le (fun z => topS (T.m z)) 1000000 T.dom hb
  unfold topsN
  omega
 obtain ⟨W, hW⟩ : ∃ W : Int, (wasN T (some z) : Int) = W := ⟨_, rfl⟩
 have hW0 : 0 ≤ W := by omega
 have HR : Hid (risesB T (some z) E = (decide ((E : Int) ≤ W) || decide ((topsN T : Int) + (E : Int) - W ≤ (T.read : Int) + (T.own.d : Int)))) := Lib.hid (by
  unfold risesB
  by_cases h1 : E ≤ wasN T (some z)
  ·rw [decide_eq_true h1, decide_eq_true (show (E : Int) ≤ W by omega)]; rfl
  ·rw [decide_eq_false h1, decide_eq_false (show ¬ (E : Int) ≤ W by omega)]
   congr 1
   exact decide_eq_decide.2 (by omega))
 rw [HR.out]
 have c1 : w.cell? ⟨(G z).sb, 1, none⟩ = some (ptrI (G z).ib (T.m z).inn) := (q.strs z hz).ptrs.2.1
 have HTP : Hid (Calls Tryz.prog 78 #[.pointer (some ⟨(G z).ib, 0, none⟩)] w fun e w' => w = w' ∧ e = .returned (.int .u64 W)) := Lib.hid (by
  have h := itop_any ((q.strs z hz).inn o ho)
  have e : (o.top : Int) = W := (by
   rw [← hW]
   show (o.top : Int) = ((topS (T.m z) : Nat) : Int)
   unfold topS
   rw [ho]
   rfl)
  rw [e] at h
  exact h)
 have hWm : W ≤ 1000000 := by have := hb z hz; rw [← hW]; show ((topS (T.m z) : Nat) : Int) ≤ 1000000; omega
 rw [ho] at c1
 unfold ptrI at c1
 have u1 : IntKind.u64.wrap ((topsN T : Int) + (E : Int)) = (topsN T : Int) + (E : Int) := IntWalk.u64_in _ (by omega)
 have u3 : IntKind.u64.wrap ((T.read : Int) + (T.own.d : Int)) = (T.read : Int) + (T.own.d : Int) := IntWalk.u64_in _ (by omega)
 by_cases h1 : (E : Int) ≤ W
 ·have t1 : decide ((E : Int) ≤ W) = true := decide_eq_true h1
  rw [t1]
  clear q hl hb hd htn hr hE h1 u1 u3 hW
  generalize (E : Int) = e0 at *
  clear hW0 hWm
  go_enter Tryz.func148, Tryz.ntmps148
  go_wp2_with (first
   | (go_at_call 78; (with_reducible refine HTP.out.mono ?_); rintro e w1 ⟨rfl, rfl⟩)
   | fail)
  go_quiet (fail)
  go_wp2_with fail
  go_ret
  exact ⟨rfl, (Mod.refl _ _).drewN _⟩
 ·have t1 : decide ((E : Int) ≤ W) = false := decide_eq_false h1
  have u2 : IntKind.u64.wrap ((topsN T : Int) + (E : Int) - W) = (topsN T : Int) + (E : Int) - W := IntWalk.u64_in _ (by omega)
  obtain ⟨t0, ht0⟩ : ∃ t0 : Int, (topsN T : Int) = t0 := ⟨_, rfl⟩
  have HT := Lib.hid ht0
  rw [t1]
  rw [ht0] at u1 u2 ⊢
  clear q hl hb hd htn hr hE h1 hW ht0
  generalize (E : Int) = e0 at *
  clear hW0 hWm
  generalize (T.read : Int) = r0 at *
  generalize (T.own.d : Int) = d0 at *
  go_enter Tryz.func148, Tryz.ntmps148
  go_upto_region 4 with (first
   | (go_at_call 78; (with_reducible refine HTP.out.mono ?_); rintro e w1 ⟨rfl, rfl⟩)
   | fail)
  refine wp_region_held_drew (S := fun X => Mod (fun _ => False) w X) (by kernel_rfl) (Mod.refl _ _).drew (fun hS => ?_)
  refine' takeH (i := 0) (v := _) (some 15) rfl rfl (by kernel_rfl) (by kernel_rfl) (by kernel_rfl) (fun _ _ _ h => h) (Or.inl ⟨by rfl, fun X hX => ?_⟩) hS ?_
  rotate_left
  ·go_simp; exact rfl
  (try go_frame)
  refine' takeH (i := 1) (v := _) (some 16) rfl rfl (by kernel_rfl) (by kernel_rfl) (by kernel_rfl) (fun _ _ _ h => h) (Or.inl ⟨by rfl, fun X hX => ?_⟩) hS ?_
  rotate_left
  ·go_simp; exact rfl
  (try go_frame)
  refine' takeH (i := 2) (v := _) (some 17) rfl rfl (by kernel_rfl) (by kernel_rfl) (by kernel_rfl) (fun _ _ _ h => h) (Or.inl ⟨by rfl, fun X hX => ?_⟩) hS ?_
  rotate_left
  ·go_simp; exact rfl
  (try go_frame)
  refine' takeH (i := 3) (v := _) (some 18) rfl rfl (by kernel_rfl) (by kernel_rfl) (by kernel_rfl) (fun _ _ _ h => h) (Or.inl ⟨by rfl, fun X hX => ?_⟩) hS ?_
  rotate_left
  ·go_simp; exact rfl
  (try go_frame)
  refine' takeH (i := 4) (v := _) (some 19) rfl rfl (by kernel_rfl) (by kernel_rfl) (by kernel_rfl) (fun _ _ _ h => h) (Or.inl ⟨by rfl, fun X hX => ?_⟩) hS ?_
  rotate_left
  ·go_simp; exact rfl
  (try go_frame)
  refine' takeH (i := 6) (v := _) (some 21) rfl rfl (by kernel_rfl) (by kernel_rfl) (by kernel_rfl) (fun _ _ _ h => h) (Or.inl ⟨by rfl, fun X hX => ?_⟩) hS ?_
  rotate_left
  ·go_simp; exact rfl
  (try go_frame)
  refine' takeH (i := 8) (v := _) (some 23) rfl rfl (by kernel_rfl) (by kernel_rfl) (by kernel_rfl) (fun _ _ _ h => h) (Or.inl ⟨by rfl, fun X hX => ?_⟩) hS ?_
  rotate_left
  ·go_simp; exact rfl
  (try go_frame)
  refine' takeH (i := 10) (v := _) (some 25) rfl rfl (by kernel_rfl) (by kernel_rfl) (by kernel_rfl) (fun _ _ _ h => h) (Or.inl ⟨by rfl, fun X hX => ?_⟩) hS ?_
  rotate_left
  ·go_simp; exact rfl
  (try go_frame)
  refine' takeH (i := 11) (v := _) (some 26) rfl rfl (by kernel_rfl) (by kernel_rfl) (by kernel_rfl) (fun _ _ _ h => h) (Or.inl ⟨by rfl, fun X hX => ?_⟩) hS ?_
  rotate_left
  ·go_simp; exact rfl
  (try go_frame)
  refine' takeH (i := 12) (v := _) (some 27) rfl rfl (by kernel_rfl) (by kernel_rfl) (by kernel_rfl) (fun _ _ _ h => h) (Or.inl ⟨by rfl, fun X hX => ?_⟩) hS ?_
  rotate_left
  ·go_simp; exact rfl
  (try go_frame)
  refine' takeH (i := 13) (v := _) (some 28) rfl rfl (by kernel_rfl) (by kernel_rfl) (by kernel_rfl) (fun _ _ _ h => h) (Or.inl ⟨by rfl, fun X hX => ?_⟩) hS ?_
  rotate_left
  ·have h := (show Mod (fun _ => False) w X from hX).cellAt K31.out (fun h => h); go_simp; exact rfl
  (try go_frame)
  refine' takeH (i := 14) (v := _) (some 29) rfl rfl (by kernel_rfl) (by kernel_rfl) (by kernel_rfl) (fun _ _ _ h => h) (Or.inl ⟨by rfl, fun X hX => ?_⟩) hS ?_
  rotate_left
  ·go_simp; exact rfl
  (try go_frame)
  refine' takeH (i := 15) (v := _) (some 30) rfl rfl (by kernel_rfl) (by kernel_rfl) (by kernel_rfl) (fun _ _ _ h => h) (Or.inl ⟨by rfl, fun X hX => ?_⟩) hS ?_
  rotate_left
  ·go_simp; exact rfl
  (try go_frame)
  refine' takeH (i := 16) (v := _) (some 31) rfl rfl (by kernel_rfl) (by kernel_rfl) (by kernel_rfl) (fun _ _ _ h => h) (Or.inl ⟨by rfl, fun X hX => ?_⟩) hS ?_
  rotate_left
  ·go_simp; exact rfl
  (try go_frame)
  refine' takeH (i := 17) (v := _) (some 32) rfl rfl (by kernel_rfl) (by kernel_rfl) (by kernel_rfl) (fun _ _ _ h => h) (Or.inl ⟨by rfl, fun X hX => ?_⟩) hS ?_
  rotate_left
  ·go_simp; exact rfl
  (try go_frame)
  refine' takeH (i := 18) (v := _) (some 33) rfl rfl (by kernel_rfl) (by kernel_rfl) (by kernel_rfl) (fun _ _ _ h => h) (Or.inl ⟨by rfl, fun X hX => ?_⟩) hS ?_
  rotate_left
  ·have h := (show Mod (fun _ => False) w X from hX).cellAt K2.out (fun h => h); go_simp; exact rfl
  (try go_frame)
  refine' takeH (i := 19) (v := _) (some 34) rfl rfl (by kernel_rfl) (by kernel_rfl) (by kernel_rfl) (fun _ _ _ h => h) (Or.inl ⟨by rfl, fun X hX => ?_⟩) hS ?_
  rotate_left
  ·go_simp; exact rfl
  (try go_frame)
  refine wpAnyH_ready (rs := [5]) (by kernel_rfl) (by simp) ?_
  refine (AllReadyH.cons (o := ⟨some 20, _, _, _, _, some (3, false)⟩) rfl (fun K hK => ?_) AllReadyH.nil)
  go_simp
  refine (tops_any (HQ.out.still hS) HL.out HB.out).mono ?_
  rintro e w2 ⟨rfl, hM2⟩
  rw [HT.out]
  refine hK.out _ _ (Mod.trans hS hM2) (fun hS => ?_)
  clear hK K hM2
  refine' takeH (i := 7) (v := _) (some 22) rfl rfl (by kernel_rfl) (by kernel_rfl) (by kernel_rfl) (fun _ _ _ h => h) (Or.inl ⟨by rfl, fun X hX => ?_⟩) hS ?_
  rotate_left
  ·go_simp; exact rfl
  (try go_frame)
  refine' takeH (i := 9) (v := _) (some 24) rfl rfl (by kernel_rfl) (by kernel_rfl) (by kernel_rfl) (fun _ _ _ h => h) (Or.inl ⟨by rfl, fun X hX => ?_⟩) hS ?_
  rotate_left
  ·go_simp; exact rfl
  (try go_frame)
  refine' takeH (i := 20) (v := _) (some 35) rfl rfl (by kernel_rfl) (by kernel_rfl) (by kernel_rfl) (fun _ _ _ h => h) (Or.inl ⟨by rfl, fun X hX => ?_⟩) hS ?_
  rotate_left
  ·go_simp; exact rfl
  (try go_frame)
  refine' takeH (i := 21) (v := _) (some 36) rfl rfl (by kernel_rfl) (by kernel_rfl) (by kernel_rfl) (fun _ _ _ h => h) (Or.inl ⟨by rfl, fun X hX => ?_⟩) hS ?_
  rotate_left
  ·go_simp; exact rfl
  (try go_frame)
  refine' takeH (i := 22) (v := _) (some 6) rfl rfl (by kernel_rfl) (by kernel_rfl) (by kernel_rfl) (fun _ _ _ h => h) (Or.inl ⟨by rfl, fun X hX => ?_⟩) hS ?_
  rotate_left
  ·go_simp; exact rfl
  (try go_frame)
  refine wpAnyH_done (by kernel_rfl) ?_ _
  go_wp2_with fail
  go_ret
  exact ⟨rfl, hS⟩
end Go.Proofs.YtolgeghdkoodnaaGreatDoor
set_option maxRecDepth 100000
namespace Go.Proofs.YtolgeghdkoodnaaGreatDoor
open Go.RowKit Go.Maps
theorem TBuf.updF {B : Nat} {w w' : World} {tb mb : Nat} {G : Int → SM} {T : Tb} (q : TBuf B w tb mb G T) {z : Int} (hz : z ∈ T.dom) {g' : SM} {s' : St} (hq : SBuf B w' g' s') (hsb : g'.sb = (G z).sb) (hsub : ∀ k, SS g' s' k → SS (G z) (T.m z) k ∨ ¬ TS tb mb G T k) (hM : Mod (SS (G z) (T.m z)) w w') :
  TBuf B w' tb mb (updG G z g') { T with m := updM T.m z s' } ∧ (∀ k, TS tb mb (updG G z g') { T with m := updM T.m z s' } k → TS tb mb G T k ∨ SS g' s' k) ∧ Mod (TS tb mb G T) w w' := by
 refine ⟨⟨q.at0, q.atm, hM.blk q.blk (fun h => (q.tops z hz tb h).1 rfl), ?_, ?_, ?_, ?_, q.mt, q.tok, q.ids, q.num⟩, ?_, hM.mono (fun k _ h => .inr (.inr ⟨z, hz, h⟩))⟩
 ·have e : (fun y => Value.pointer (some ⟨(updG G z g' y).sb, 0, none⟩)) = (fun y => Value.pointer (some ⟨(G y).sb, 0, none⟩)) := by
   funext y
   by_cases h : y = z
   ·rw [h, updG_same, hsb]
   ·rw [updG_other h]
  rw [e]
  exact q.map.kept hM (fun h => (q.tops z hz mb h).2 rfl)
 ·intro y hy
  by_cases h : y = z
  ·rw [h, updG_same]
   show SBuf B w' g' (updM T.m z s' z)
   rw [updM_same]
   exact hq
  ·rw [updG_other h]
   show SBuf B w' (G y) (updM T.m z s' y)
   rw [updM_other h]
   exact (q.strs y hy).kept hM (fun k hk hk2 => q.apart y hy z hz h k hk hk2)
 ·intro y hy y' hy' hne k hk hk'
  by_cases h : y = z
  ·have h' : y' ≠ z := fun e => hne (h.trans e.symm)
   rw [h, updG_same] at hk
   rw [updG_other h'] at hk'
   have hk1 : SS g' s' k := by simpa [updM_same] using hk
   have hk2 : SS (G y') (T.m y') k := by simpa [updM_other h'] using hk'
   rcases hsub k hk1 with e | e
   ·exact q.apart z hz y' hy' (fun e2 => h' e2.symm) k e hk2
   ·exact e (.inr (.inr ⟨y', hy', hk2⟩))
  ·rw [updG_other h] at hk
   have hk1 : SS (G y) (T.m y) k := by simpa [updM_other h] using hk
   by_cases h' : y' = z
   ·rw [h', updG_same] at hk'
    have hk2 : SS g' s' k := by simpa [updM_same] using hk'
    rcases hsub k hk2 with e | e
    ·exact q.apart y hy z hz h k hk1 e
    ·exact e (.inr (.inr ⟨y, hy, hk1⟩))
   ·rw [updG_other h'] at hk'
    have hk2 : SS (G y') (T.m y') k := by simpa [updM_other h'] using hk'
    exact q.apart y hy y' hy' hne k hk1 hk2
 ·intro y hy k hk
  by_cases h : y = z
  ·rw [h, updG_same] at hk
   have hk1 : SS g' s' k := by simpa [updM_same] using hk
   rcases hsub k hk1 with e | e
   ·exact q.tops z hz k e
   ·exact ⟨fun e2 => e (.inl e2), fun e2 => e (.inr (.inl e2))⟩
  ·rw [updG_other h] at hk
   exact q.tops y hy k (by simpa [updM_other h] using hk)
 ·rintro k (h | h | ⟨y, hy, hk⟩)
  ·exact .inl (.inl h)
  ·exact .inl (.inr (.inl h))
  ·by_cases h : y = z
   ·rw [h, updG_same] at hk
    have hk1 : SS g' s' k := by simpa [updM_same] using hk
    exact .inr hk1
   ·rw [updG_other h] at hk
    exact .inl (.inr (.inr ⟨y, hy, by simpa [updM_other h] using hk⟩))
theorem TT.putIn {B : Nat} {w w3 w4 : World} {tb mb : Nat} {G G4 : Int → SM} {T : Tb} {id : Nat} {ib mbi B2 : Nat} {o : IB} (q : TBuf B w tb mb G T) (hT : TT B w3 w4 tb mb G G4 T (mkT T id)) (hM3 : Mod (fun _ => False) w w3) (hI : IBuf B2 w3 ib mbi o) (hB : w.heap.size ≤ B2) :
  TT B w (w4.setCell ⟨(G4 (id : Int)).sb, 1, none⟩ (.pointer (some ⟨ib, 0, none⟩))) tb mb G (updG G4 id { G4 (id : Int) with ib := ib, mb := mbi }) T { mkT T id with m := updM (mkT T id).m id { (mkT T id).m id with inn := some o } } := by
 have hz : (id : Int) ∈ (mkT T id).dom := mem_putD.2 (.inl rfl)
 have hlt := q.lt
 have hBw : B ≤ w.heap.size := Nat.le_of_lt (Nat.lt_of_le_of_lt (hlt tb (.inl rfl)).1 (hlt tb (.inl rfl)).2)
 have hIl : ∀ k, IS ib mbi k → w.heap.size ≤ k ∧ k < w3.heap.size := fun k hk => ⟨Nat.le_trans hB (hI.lt k hk).1, (hI.lt k hk).2⟩
 have hno : ∀ k, IS ib mbi k → ¬ TS tb mb G4 (mkT T id) k := fun k hk ht => by
  have h1 := hIl k hk
  rcases hT.2.1 k ht with e | e
  ·have := (hlt k e).2; omega
  ·omega
 have hI4 : IBuf B w4 ib mbi o := (hI.base (Nat.le_trans hBw hB)).kept hT.2.2 (fun k hk ht => by have h1 := hIl k hk; have := (hlt k ht).2; omega)
 have hs := hT.1.strs _ hz
 obtain ⟨p1, p2⟩ := hs.putIn (Mod.refl _ _) hI4 (fun k hk h => hno k hk (.inr (.inr ⟨_, hz, h⟩)))
 have hsub : ∀ k, SS { G4 (id : Int) with ib := ib, mb := mbi } { (mkT T id).m id with inn := some o } k → SS (G4 id) ((mkT T id).m id) k ∨ IS ib mbi k := by
  rintro k (e | e | e | ⟨-, e⟩)
  ·exact .inl (.inl e)
  ·exact .inl (.inr (.inl e))
  ·exact .inl (.inr (.inr (.inl e)))
  ·exact .inr e
 obtain ⟨u1, u2, u3⟩ := hT.1.updF hz p1 rfl (fun k hk => (hsub k hk).imp_right (hno k)) (p2.mono (fun k _ e => .inl e))
 refine ⟨u1, fun k hk => ?_, ?_⟩
 ·have hs4 : w4.heap.size ≤ (w4.setCell ⟨(G4 (id : Int)).sb, 1, none⟩ (.pointer (some ⟨ib, 0, none⟩))).heap.size := p2.size
  have h34 := hT.2.2.size
  rcases u2 k hk with e | e
  ·rcases hT.2.1 k e with e | e
   ·exact .inl e
   ·exact .inr ⟨Nat.le_trans hM3.size e.1, Nat.lt_of_lt_of_le e.2 hs4⟩
  ·rcases hsub k e with e | e
   ·rcases hT.2.1 k (.inr (.inr ⟨_, hz, e⟩)) with e | e
    ·exact .inl e
    ·exact .inr ⟨Nat.le_trans hM3.size e.1, Nat.lt_of_lt_of_le e.2 hs4⟩
   ·have h1 := hIl k e
    exact .inr ⟨h1.1, by omega⟩
 ·have m4 : Mod (TS tb mb G T) w w4 := (hM3.mono (T := TS tb mb G T) (fun _ _ h => h.elim)).trans hT.2.2
  refine m4.trans' u3 (fun k hk e => ?_)
  rcases hT.2.1 k e with e | e
  ·exact e
  ·have := hM3.size; omega
def inO (T : Tb) (id : Nat) : IB := if (id : Int) ∈ T.dom then inOf T id else newI T.own.s
def comeT (T : Tb) (id off : Nat) (data : List UInt8) (last : Bool) : Tb :=
 if (id : Int) ∈ T.dom then { T with m := updM T.m id { T.m id with inn := some (putI (inO T id) off data last) } }
 else { mkT T id with m := updM (mkT T id).m id { (mkT T id).m id with inn := some (putI (inO T id) off data last) } }
structure ComeOk (T : Tb) (id off : Nat) (n : Nat) (last : Bool) : Prop where
 find : findE T id false = 0
 part : (id : Int) ∈ T.dom → (T.m id).over = false ∧ ∃ o, (T.m id).inn = some o
 fits : ((off + n : Nat) : Int) ≤ 4611686018427387903
 rises : risesB T (if (id : Int) ∈ T.dom then some (id : Int) else none) (off + n) = true
 put : putErr (inO T id) off n last = 0
structure Small (T : Tb) : Prop where
 len : T.dom.length ≤ 1000
 tops : ∀ z ∈ T.dom, topS (T.m z) ≤ 1000000
 givens : ∀ z ∈ T.dom, (T.m z).given ≤ 1000000
 read : T.read ≤ 2000000000
def TCome (B : Nat) (w w' : World) (tb mb : Nat) (G : Int → SM) (T T' : Tb) (id : Nat) (e : Ending) : Prop := ∃ G', e = .returned (.tuple #[.pointer (some ⟨(G' (id : Int)).sb, 0, none⟩), .int .i64 0]) ∧ TT B w w' tb mb G G' T T'
set_option maxHeartbeats 1000000 in
theorem come_old {B : Nat} {w : World} {tb mb : Nat} {G : Int → SM} {T : Tb} (q : TBuf B w tb mb G T) {f : Fr} {vd vr dv : Value} {data : List UInt8} {last : Bool} (h16 : f.t.length = 16) (hd : Byts w dv data) (hi : (f.id : Int) < 4611686018427387912) (hs : Small T) (hc : ComeOk T f.id f.a data.length last) (hz : (f.id : Int) ∈ T.dom) :
  Calls Tryz.prog 77 #[.pointer (some ⟨tb, 0, none⟩), .agg (frC f vd vr), dv, .bool last] w fun e w' => TCome B w w' tb mb G T (comeT T f.id f.a data last) f.id e := by
 obtain ⟨da, dc, rfl, -⟩ := Sl.val hd
 have hE : (f.a : Int) + (data.length : Int) = ((f.a + data.length : Nat) : Int) := by push_cast; rfl
 have hfit := hc.fits
 have HB := Lib.hid (FrB.new w f vd vr h16)
 have b1 : (w.alloc (.cells (frC f vd vr) 52)).cell? ⟨w.heap.size, 1, none⟩ = some (.int .u64 (f.id : Int)) := HB.out.cells.2.1
 have b2 : (w.alloc (.cells (frC f vd vr) 52)).cell? ⟨w.heap.size, 2, none⟩ = some (.int .u64 (f.a : Int)) := HB.out.cells.2.2.1
 have HM0 : Hid (Mod (fun _ => False) w (w.alloc (.cells (frC f vd vr) 52))) := Lib.hid ((Mod.refl _ _).alloc _)
 have u1 : IntKind.u64.wrap (data.length : Int) = (data.length : Int) := IntWalk.u64_in _ (by omega)
 have u2 : IntKind.u64.wrap (4611686018427387903 - (data.length : Int)) = 4611686018427387903 - (data.length : Int) := IntWalk.u64_in _ (by omega)
 have u3 : IntKind.u64.wrap ((f.a : Int) + (data.length : Int)) = ((f.a + data.length : Nat) : Int) := by rw [IntWalk.u64_in _ (by omega)]; exact hE
 have t1 : decide (4611686018427387903 - (data.length : Int) < (f.a : Int)) = false := decide_eq_false (by omega)
 have HQ := Lib.hid q
 have HQ0 := Lib.hid (q.still HM0.out)
 have HFI := Lib.hid (find_any (q.still HM0.out) (id := f.id) (by unfold okId; omega) false)
 obtain ⟨hov, o, ho⟩ := hc.part hz
 have hfv : findV G T f.id false = .pointer (some ⟨(G f.id).sb, 0, none⟩) := by unfold findV; rw [if_pos ⟨hc.find, hz⟩]
 have hri := hc.rises
 rw [if_pos hz] at hri
 have hin : inO T f.id = o := by unfold inO inOf; rw [if_pos hz, ho]; rfl
 have hpe := hc.put
 rw [hin] at hpe
 rw [hfv, hc.find] at HFI
 have HRI := Lib.hid (rises_some (q.still HM0.out) hs.len hs.tops hz ho (f.a + data.length) (by omega) hs.read)
 rw [hri] at HRI
 have HPA := Lib.hid (fun w1 (hm : Mod (fun _ => False) (w.alloc (.cells (frC f vd vr) 52)) w1) => part_some ((q.still (HM0.out.trans hm)).strs _ hz) ho (.pointer (some ⟨tb, 0, none⟩)))
 have HPU := Lib.hid (fun w1 (hm : Mod (fun _ => False) w w1) => iput_any (((q.still hm).strs _ hz).inn o ho) (byts_kept hd hm) f.a last hfit)
 have HE : Hid (putErr o f.a data.length last = 0 ∧ comeT T f.id f.a (data) last = { T with m := updM T.m f.id { T.m f.id with inn := some (putI o f.a data last) } }) := Lib.hid ⟨hpe, by unfold comeT; rw [if_pos hz, hin]⟩
 have HZ := Lib.hid hz
 have HO := Lib.hid ho
 have c5 : (w.alloc (.cells (frC f vd vr) 52)).cell? ⟨(G f.id).sb, 5, none⟩ = some (.bool false) := by
  have := (HQ0.out.strs _ hz).blk.cellAt 5 (v := .bool (T.m f.id).over) rfl
  rw [hov] at this
  exact this
 clear q hd hs hc hz hE hfit hfv hri hin hpe hov ho h16 hi
 generalize frC f vd vr = C at *
 generalize ((f.a + data.length : Nat) : Int) = E at *
 go_enter Tryz.func77, Tryz.ntmps77
 go_wp2_with (first
  | (go_at_call 147; (with_reducible refine HFI.out.mono ?_); rintro e w1 ⟨rfl, rfl⟩; generalize (w.alloc (.cells C 52)) = W0 at *)
  | (go_at_call 148; (with_reducible refine HRI.out.mono ?_); rintro e w1 ⟨rfl, hm⟩; have b2' : w1.cell? ⟨w.heap.size, 2, none⟩ = some (.int .u64 (f.a : Int)) := hm.cellAt b2 (fun h => h); have HM1 := Lib.hid hm; clear hm)
  | (go_at_call 149; (with_reducible refine (HPA.out _ HM1.out).mono ?_); rintro e w2 ⟨rfl, rfl⟩)
  | (go_at_call 150; (with_reducible refine (HPU.out _ (HM0.out.trans HM1.out)).mono ?_); rintro e w3 ⟨rfl, hic⟩; rw [HE.out.1]; have HIC := Lib.hid hic; clear hic)
  | fail)
 go_ret2
 have q1 := HQ.out.still (HM0.out.trans HM1.out)
 have hsc := (q1.strs _ HZ.out).inS HO.out HIC.out
 refine ⟨G, rfl, ?_⟩
 rw [HE.out.2]
 exact (HQ.out.stay (HM0.out.trans HM1.out)).trans (hsc.tt q1 HZ.out)
set_option maxHeartbeats 1000000 in
theorem come_new {B : Nat} {w : World} {tb mb : Nat} {G : Int → SM} {T : Tb} (q : TBuf B w tb mb G T) {f : Fr} {vd vr dv : Value} {data : List UInt8} {last : Bool} (h16 : f.t.length = 16) (hd : Byts w dv data) (hi : (f.id : Int) < 4611686018427387912) (hs : Small T) (hc : ComeOk T f.id f.a data.length last) (hz : (f.id : Int) ∉ T.dom) :
  Calls Tryz.prog 77 #[.pointer (some ⟨tb, 0, none⟩), .agg (frC f vd vr), dv, .bool last] w fun e w' => TCome B w w' tb mb G T (comeT T f.id f.a data last) f.id e := by
 obtain ⟨da, dc, rfl, -⟩ := Sl.val hd
 have hE : (f.a : Int) + (data.length : Int) = ((f.a + data.length : Nat) : Int) := by push_cast; rfl
 have hfit := hc.fits
 have HB := Lib.hid (FrB.new w f vd vr h16)
 have b1 : (w.alloc (.cells (frC f vd vr) 52)).cell? ⟨w.heap.size, 1, none⟩ = some (.int .u64 (f.id : Int)) := HB.out.cells.2.1
 have b2 : (w.alloc (.cells (frC f vd vr) 52)).cell? ⟨w.heap.size, 2, none⟩ = some (.int .u64 (f.a : Int)) := HB.out.cells.2.2.1
 have HM0 : Hid (Mod (fun _ => False) w (w.alloc (.cells (frC f vd vr) 52))) := Lib.hid ((Mod.refl _ _).alloc _)
 have u1 : IntKind.u64.wrap (data.length : Int) = (data.length : Int) := IntWalk.u64_in _ (by omega)
 have u2 : IntKind.u64.wrap (4611686018427387903 - (data.length : Int)) = 4611686018427387903 - (data.length : Int) := IntWalk.u64_in _ (by omega)
 have u3 : IntKind.u64.wrap ((f.a : Int) + (data.length : Int)) = ((f.a + data.length : Nat) : Int) := by rw [IntWalk.u64_in _ (by omega)]; exact hE
 have t1 : decide (4611686018427387903 - (data.length : Int) < (f.a : Int)) = false := decide_eq_false (by omega)
 have HQ := Lib.hid q
 have HQ0 := Lib.hid (q.still HM0.out)
 have HFI := Lib.hid (find_any (q.still HM0.out) (id := f.id) (by unfold okId; omega) false)
 have hfv : findV G T f.id false = .pointer none := by unfold findV; rw [if_neg (fun h => hz h.2)]
 have hri := hc.rises
 rw [if_neg hz] at hri
 have hin : inO T f.id = newI T.own.s := by unfold inO; rw [if_neg hz]
 have hpe := hc.put
 rw [hin] at hpe
 rw [hfv, hc.find] at HFI
 have HRI := Lib.hid (rises_none (q.still HM0.out) hs.len hs.tops (f.a + data.length) (by omega) hs.read)
 rw [hri] at HRI
 have HPA := Lib.hid (fun w1 (hm : Mod (fun _ => False) (w.alloc (.cells (frC f vd vr) 52)) w1) => part_none (q.still (HM0.out.trans hm)))
 have HPU := Lib.hid (fun w1 B' ib mbi (hm : Mod (fun _ => False) w w1) (hI : IBuf B' w1 ib mbi (newI T.own.s)) => iput_any hI (byts_kept hd hm) f.a last hfit)
 have HMK := Lib.hid (fun w1 (hm : Mod (fun _ => False) w w1) => make_any (q.still hm) hi hz hs.len)
 have HE : Hid (putErr (newI T.own.s) f.a data.length last = 0 ∧ comeT T f.id f.a (data) last = { mkT T f.id with m := updM (mkT T f.id).m f.id { (mkT T f.id).m f.id with inn := some (putI (newI T.own.s) f.a data last) } }) := Lib.hid ⟨hpe, by unfold comeT; rw [if_neg hz, hin]⟩
 have HZ := Lib.hid hz
 clear q hd hs hc hz hE hfit hfv hri hin hpe h16 hi
 generalize frC f vd vr = C at *
 generalize ((f.a + data.length : Nat) : Int) = E at *
 go_enter Tryz.func77, Tryz.ntmps77
 go_wp2_with (first
  | (go_at_call 147; (with_reducible refine HFI.out.mono ?_); rintro e w1 ⟨rfl, rfl⟩; generalize (w.alloc (.cells C 52)) = W0 at *)
  | (go_at_call 148; (with_reducible refine HRI.out.mono ?_); rintro e w1 ⟨rfl, hm⟩; have HM1 := Lib.hid hm; clear hm)
  | (go_at_call 149; (with_reducible refine (HPA.out _ HM1.out).mono ?_); rintro e w2 ⟨ib, mbi, rfl, hI, hm⟩; have b2' : w2.cell? ⟨w.heap.size, 2, none⟩ = some (.int .u64 (f.a : Int)) := hm.cellAt (HM1.out.cellAt b2 (fun h => h)) (fun h => h); have b1' : w2.cell? ⟨w.heap.size, 1, none⟩ = some (.int .u64 (f.id : Int)) := hm.cellAt (HM1.out.cellAt b1 (fun h => h)) (fun h => h); have HM2 := Lib.hid ((HM0.out.trans HM1.out).trans hm); have HI := Lib.hid hI; have hb2 := block_lt_of_cell b1'; clear hm hI)
  | (go_at_call 150; (with_reducible refine (HPU.out _ _ _ _ HM2.out HI.out).mono ?_); rintro e w3 ⟨rfl, hic⟩; rw [HE.out.1]; have HM3 : Hid (Mod (fun _ => False) w w3) := Lib.hid (HM2.out.trans' hic.2 (fun k hk e => by have := (HI.out.lt k e).1; have := (HM0.out.trans HM1.out).size; omega)); have b1'' : w3.cell? ⟨w.heap.size, 1, none⟩ = some (.int .u64 (f.id : Int)) := hic.2.cellAt b1' (fun e => by have := (HI.out.lt _ e).1; have := block_lt_of_cell b1; have := HM1.out.size; omega); have HIC := Lib.hid hic; clear hic)
  | (go_at_call 29; (with_reducible refine (HMK.out _ HM3.out).mono ?_); rintro e w4 ⟨G4, rfl, hT⟩; have p1 := (hT.1.strs _ (mem_putD.2 (.inl rfl))).ptrs.2.1; have f1 := (hT.1.strs _ (mem_putD.2 (.inl rfl))).ptrs.2.2.2; have HT := Lib.hid hT; clear hT; generalize hsb : (G4 (f.id : Int)).sb = sb at *; have HSB := Lib.hid hsb; clear hsb)
  | fail)
 go_ret2
 have hfin := TT.putIn HQ.out HT.out HM3.out HIC.out.1 (HM0.out.trans HM1.out).size
 rw [HSB.out] at hfin
 refine ⟨updG G4 f.id { G4 (f.id : Int) with ib := ib, mb := mbi }, ?_, ?_⟩
 ·rw [updG_same]
  show _ = Ending.returned (.tuple #[.pointer (some ⟨(G4 (f.id : Int)).sb, 0, none⟩), .int .i64 0])
  rw [HSB.out]
  rfl
 ·rw [HE.out.2]
  exact hfin
theorem come_any {B : Nat} {w : World} {tb mb : Nat} {G : Int → SM} {T : Tb} (q : TBuf B w tb mb G T) {f : Fr} {vd vr dv : Value} {data : List UInt8} {last : Bool} (h16 : f.t.length = 16) (hd : Byts w dv data) (hi : (f.id : Int) < 4611686018427387912) (hs : Small T) (hc : ComeOk T f.id f.a data.length last) :
  Calls Tryz.prog 77 #[.pointer (some ⟨tb, 0, none⟩), .agg (frC f vd vr), dv, .bool last] w fun e w' => TCome B w w' tb mb G T (comeT T f.id f.a data last) f.id e := by
 by_cases hz : (f.id : Int) ∈ T.dom
 ·exact come_old q h16 hd hi hs hc hz
 ·exact come_new q h16 hd hi hs hc hz
end Go.Proofs.YtolgeghdkoodnaaGreatDoor
