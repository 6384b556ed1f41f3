/- Parts of the proof: SuD. -/
import Derived.Test.YtahgidkpjmecdaaGreatDoorB08
import Derived.Test.YtahgidkpjmecdaaGreatDoorB15
import Derived.Lib.MinMax
set_option maxRecDepth 100000
namespace Go.Proofs.YtahgidkpjmecdaaGreatDoor
open Go.RowKit Go.Maps
@[go_sem high] theorem run_min_ints3 {P : Program} (w : World) (ts : Array TypeId) (t : TypeId) (k k' k2 : IntKind) (x y z : Int) :
  (Builtin.min_ ts t #[.int k x, .int k' y, .int k2 z]).run P w = .ok (.int k (min (min x y) z)) w := by
 have e : ∀ x y : Int, (if y < x then y else x) = min x y := fun x y => by
  rw [Int.min_def]
  split <;> split <;> omega
 simp [Builtin.min_, Builtin.min2, e]
abbrev frZx : Array Value := #[.int .i64 0, .int .u64 0, .int .u64 0, .int .u64 0, .int .u64 0, .bool false, .slice none 0 0, .slice none 0 0, .int .u8 0, .int .u8 0, .int .u8 0, .int .u8 0, .int .u8 0, .int .u8 0, .int .u8 0, .int .u8 0, .int .u8 0, .int .u8 0, .int .u8 0, .int .u8 0, .int .u8 0, .int .u8 0, .int .u8 0, .int .u8 0]
def nextWant (s : St) (o : OB) : Nat := min s.max o.b.length
def raisesB (T : Tb) (s : St) (o : OB) : Bool := decide (s.given < nextWant s o) && decide (givenN T < T.data)
def newGiven (T : Tb) (s : St) (o : OB) (many : Nat) : Nat := s.given + min (min (nextWant s o - s.given) many) (T.data - givenN T)
def nextG (T : Tb) (s : St) (o : OB) (many : Nat) : Nat := if raisesB T s o then newGiven T s o many else s.given
def nextO1 (T : Tb) (s : St) (o : OB) (many : Nat) : OB := if raisesB T s o then raiseO (newGiven T s o many) o else o
def nextT (T : Tb) (id : Nat) (o : OB) (many : Nat) : Tb := { T with m := updM T.m id { T.m id with given := nextG T (T.m id) o many, out := some (nextO (nextO1 T (T.m id) o many) many) } }
def nextF' (T : Tb) (id : Nat) (o : OB) (many : Nat) : Fr := streamF id (dueO (nextO1 T (T.m id) o many) many).a (nextB (nextO1 T (T.m id) o many) many) (dueO (nextO1 T (T.m id) o many) many).e
def TNext (B : Nat) (w w' : World) (tb mb : Nat) (G : Int → SM) (T : Tb) (id : Nat) (o : OB) (many : Nat) (e : Ending) : Prop :=
 ∃ vd, e = .returned (.tuple #[.agg (frC (nextF' T id o many) vd nilS), .bool (dueO (nextO1 T (T.m id) o many) many).ok]) ∧ OwnB w' w.heap.size vd (nextF' T id o many).d ∧ TT B w w' tb mb G G T (nextT T id o many)
theorem oraise_same {B : Nat} {w : World} {ob : Nat} {bv sv : Value} {o : OB} {l : Nat} (q : OBuf B w ob bv sv o) (hl : l < 18446744073709551616) :
  Calls Tryz.prog 104 #[.pointer (some ⟨ob, 0, none⟩), .int .u64 (l : Int)] w fun e w' => e = .returned (.bool (decide (o.lim < l))) ∧ OBuf B w' ob bv sv (raiseO l o) ∧ Mod (OS ob bv sv) w w' := by
 have c2 : w.cell? ⟨ob, 4, none⟩ = some (.int .u64 (o.lim : Int)) := q.blk.cellAt 4 rfl
 have f2 : w.frozen? ⟨ob, 4, none⟩ = false := q.blk.free 4
 have HQ := Lib.hid q
 have HL := Lib.hid hl
 obtain ⟨r, hr⟩ : ∃ r, r = decide (o.lim < l) := ⟨_, rfl⟩
 rw [← hr]
 clear q hl
 by_cases h : o.lim < l
 ·have q1 : decide ((l : Int) ≤ (o.lim : Int)) = false := by simp; omega
  have q2 : decide (l ≤ o.lim) = false := by simp; omega
  have HE : Hid (r = true ∧ raiseO l o = { o with lim := l }) := Lib.hid ⟨by rw [hr]; simpa using h, by unfold raiseO; rw [if_pos h]⟩
  clear h hr
  generalize o.lim = z at c2 q1 q2
  go_enter Tryz.func104, Tryz.ntmps104
  go_wp2_with fail
  go_ret
  have hM : Mod (fun k => k = ob) w (w.setCell ⟨ob, 4, none⟩ (.int .u64 (l : Int))) := (Mod.refl (fun k => k = ob) _).setCell (p := ⟨ob, 4, none⟩) (fun _ => rfl) _
  have q := HQ.out
  rw [HE.out.1, HE.out.2]
  exact ⟨rfl, ⟨q.at0, q.blk.set 4 (.int .u64 (l : Int)), q.b.keptM hM (q.b.ne q.blk (by decide)), q.s.keptM hM (q.s.ne q.blk (by decide)), q.len, q.most, HL.out, q.apart⟩, hM.mono (fun k _ e => .inl e)⟩
 ·have q1 : decide ((l : Int) ≤ (o.lim : Int)) = true := by simp; omega
  have q2 : decide (l ≤ o.lim) = true := by simp; omega
  have HE : Hid (r = false ∧ raiseO l o = o) := Lib.hid ⟨by rw [hr]; simpa using h, by unfold raiseO; rw [if_neg h]⟩
  clear h hr
  generalize o.lim = z at c2 q1 q2
  go_enter Tryz.func104, Tryz.ntmps104
  go_wp2_with fail
  go_ret
  rw [HE.out.1, HE.out.2]
  exact ⟨rfl, HQ.out, Mod.refl _ _⟩
theorem SBuf.outSS {B : Nat} {w w' : World} {g : SM} {s : St} {o o' : OB} (q : SBuf B w g s) (ho : s.out = some o) (hq : OBuf B w' g.ob g.bv g.sv o') (hM : Mod (OS g.ob g.bv g.sv) w w') : SC B w w' g g s { s with out := some o' } := by
 have e1 : ∀ k, OS g.ob g.bv g.sv k → SO g s k := fun k hk => ⟨by rw [ho]; rfl, hk⟩
 have hlt := q.lt
 have n1 : ∀ k, SO g { s with out := some o' } k → SO g s k ∨ (w.heap.size ≤ k ∧ k < w'.heap.size) := by
  rintro k ⟨-, hk⟩
  exact .inl (e1 k hk)
 refine ⟨⟨q.at0, q.att, ?_, ?_, ?_, ?_, ?_, ?_, ?_, q.ts, q.num⟩, rfl, ?_, hM.mono (fun k _ hk => .inr (.inr (.inl (e1 k hk))))⟩
 ·have hb : Blk w g.sb (stC g s) 109 := q.blk
  have hb' := hM.blk hb (fun hk => (q.ot _ (e1 _ hk)).2 rfl)
  have ec : stC g { s with out := some o' } = stC g s := by
   unfold stC
   rw [ho]
   rfl
  rw [ec]
  exact hb'
 ·intro o2 h2
  cases h2
  exact hq
 ·intro i hi
  exact (q.inn i hi).kept hM (fun k hk hk2 => q.oi k (e1 k hk2) ⟨by rw [show s.inn = some i from hi]; rfl, hk⟩)
 ·exact q.tell.kept hM (fun hk => (q.ot _ (e1 _ hk)).1 rfl)
 ·intro k hk hk2
  rcases n1 k hk with e | e
  ·exact q.oi k e hk2
  ·have := (hlt k (.inr (.inr (.inr hk2)))).2; omega
 ·intro k hk
  rcases n1 k hk with e | e
  ·exact q.ot k e
  ·have h1 := (hlt g.tb (.inr (.inl rfl))).2
   have h2 := (hlt g.sb (.inl rfl)).2
   exact ⟨by show k ≠ g.tb; omega, by show k ≠ g.sb; omega⟩
 ·exact q.it
 ·rintro k (e | e | e | e)
  ·exact .inl (.inl e)
  ·exact .inl (.inr (.inl e))
  ·rcases n1 k e with e | e
   ·exact .inl (.inr (.inr (.inl e)))
   ·exact .inr e
  ·exact .inl (.inr (.inr (.inr e)))
theorem TT.res {B : Nat} {w W w5 w9 : World} {tb mb : Nat} {G G' : Int → SM} {T T' : Tb} (q : TBuf B w tb mb G T) (hM : Mod (fun _ => False) w W) (hw : w.heap.size < W.heap.size) (h : TT B W w5 tb mb G G' T T') (hM9 : Mod (fun k => k = w.heap.size) w5 w9) : TT B w w9 tb mb G G' T T' := by
 have hlt := q.lt
 have hno : ∀ k, TS tb mb G' T' k → k ≠ w.heap.size := fun k hk => by
  rcases h.2.1 k hk with e | e
  ·have := (hlt k e).2; omega
  ·omega
 have h59 := hM9.size
 have hWs := hM.size
 refine ⟨h.1.kept hM9 (fun k hk e => hno k hk e), fun k hk => (h.2.1 k hk).imp_right (fun e => ⟨by omega, by omega⟩), ?_⟩
 exact ((hM.mono (T := TS tb mb G T) (fun _ _ e => e.elim)).trans h.2.2).trans' hM9 (fun k hk e => absurd hk (by omega))
theorem OwnB.res {w W w5 w9 : World} {v : Value} {l : List UInt8} (h : OwnB w5 W.heap.size v l) (hw : w.heap.size < W.heap.size) (hM9 : Mod (fun k => k = w.heap.size) w5 w9) : OwnB w9 w.heap.size v l :=
 (h.keptM hM9 (fun g hg e => by have := (h.lt g hg).1; omega)).base (by omega)
theorem results_next {w : World} {b : Nat} {f : Fr} {vd : Value} (tmps : Array Value) (h16 : f.t.length = 16) (hb : Blk w b (frC f vd nilS) 91) (ha : tmps.getD 8 undef = .pointer (some ⟨b, 0, none⟩)) : (results Tryz.f56 tmps).run Tryz.prog w = .ok (.tuple #[.agg (frC f vd nilS), tmps.getD 9 undef]) w :=
 results_cell_tmp Tryz.results56 tmps ha (blk_loadVar hb Tryz.underlying91 rfl (sizeFrR f vd nilS h16))
theorem TS_next (tb mb : Nat) (G : Int → SM) (T : Tb) {id : Nat} {o : OB} (ho : (T.m id).out = some o) (many : Nat) : ∀ k, TS tb mb G (nextT T id o many) k → TS tb mb G T k := by
 rintro k (h | h | ⟨z, hz, hk⟩)
 ·exact .inl h
 ·exact .inr (.inl h)
 ·refine .inr (.inr ⟨z, hz, ?_⟩)
  have hk2 : SS (G z) (updM T.m id { T.m id with given := nextG T (T.m id) o many, out := some (nextO (nextO1 T (T.m id) o many) many) } z) k := hk
  by_cases hs : z = id
  ·subst hs
   rw [updM_same] at hk2
   rcases hk2 with e | e | e | e
   ·exact .inl e
   ·exact .inr (.inl e)
   ·exact .inr (.inr (.inl ⟨by rw [ho]; rfl, e.2⟩))
   ·exact .inr (.inr (.inr e))
  ·rw [updM_other hs] at hk2
   exact hk2
theorem frC_one1 (f : Fr) (a : Option Addr) (n c : Nat) : ∀ v ∈ (frC f (.slice a n c) nilS).toList, v.oneCell' = true := by
 intro v hv
 simp only [frC, frL, nilS, List.mem_append, List.mem_cons, List.not_mem_nil, or_false] at hv
 rcases hv with (rfl | rfl | rfl | rfl | rfl | rfl | rfl | rfl) | hv <;> try rfl
 exact bv_one _ _ hv
set_option maxHeartbeats 2000000 in
theorem next_a {B : Nat} {w : World} {tb mb : Nat} {G : Int → SM} {T : Tb} (q : TBuf B w tb mb G T) {id : Nat} (hz : (id : Int) ∈ T.dom) {o : OB} (ho : (T.m id).out = some o) (hs : Small T) (many : Nat) (hm1 : 1 ≤ many) (hm2 : (many : Int) ≤ 1000000) (hr : ¬ (T.m id).given < nextWant (T.m id) o) :
  Calls Tryz.prog 56 #[.pointer (some ⟨tb, 0, none⟩), .int .u64 (id : Int), .pointer (some ⟨(G id).sb, 0, none⟩), .int .i64 (many : Int)] w fun e w' => TNext B w w' tb mb G T id o many e := by
 have HQ := Lib.hid q
 have HZ := Lib.hid hz
 have HO := Lib.hid ho
 have HB0 := Lib.hid (Blk.new w frZx 91)
 have HM0 : Hid (Mod (fun _ => False) w (w.alloc (.cells frZx 91))) := Lib.hid ((Mod.refl _ _).alloc _)
 have hsw := q.strs _ hz
 have kmx : w.cell? ⟨(G id).sb, 2, none⟩ = some (.int .u64 ((T.m id).max : Int)) := hsw.blk.cellAt 2 rfl
 have kgv : w.cell? ⟨(G id).sb, 3, none⟩ = some (.int .u64 ((T.m id).given : Int)) := hsw.blk.cellAt 3 rfl
 have kou : w.cell? ⟨(G id).sb, 0, none⟩ = some (.pointer (some ⟨(G id).ob, 0, none⟩)) := by
  have := hsw.ptrs.1
  rw [ho] at this
  exact this
 have kdt : w.cell? ⟨tb, 30, none⟩ = some (.int .u64 (T.data : Int)) := q.cell 8 rfl
 have hon := hsw.out o ho
 have hmost := hon.most
 have hnum := hsw.num
 have HWR := Lib.hid (fun W (hm : Mod (fun _ => False) w W) => owritten_any (hon.still hm))
 have HGV := Lib.hid (fun W (hm : Mod (fun _ => False) w W) => given_any (q.still hm) hs.len hs.givens)
 have uw : IntKind.u64.wrap (o.b.length : Int) = (o.b.length : Int) := IntWalk.u64_in _ (by omega)
 have hwant : min ((T.m id).max : Int) (o.b.length : Int) = (nextWant (T.m id) o : Int) := by unfold nextWant; omega
 have HNX := Lib.hid (fun W (hm : Mod (fun _ => False) w W) => onext_any (hon.still hm) many (by omega) hm1)
 have HNE : Hid (¬ OS (G id).ob (G id).bv (G id).sv w.heap.size) := Lib.hid (fun hk => absurd (hon.lt _ hk).2 (Nat.lt_irrefl _))
 have HG : Hid (nextG T (T.m id) o many = (T.m id).given ∧ nextO1 T (T.m id) o many = o) := Lib.hid (by
  have e : raisesB T (T.m id) o = false := by unfold raisesB; rw [decide_eq_false hr]; rfl
  unfold nextG nextO1
  rw [e]
  exact ⟨rfl, rfl⟩)
 have t1 : decide (((T.m id).given : Int) < (nextWant (T.m id) o : Int)) = false := decide_eq_false (by omega)
 clear q hz ho hsw hon hmost hnum hs hm1 hm2 hr
 obtain ⟨wt, hwt⟩ : ∃ wt : Int, (nextWant (T.m id) o : Int) = wt := ⟨_, rfl⟩
 rw [hwt] at hwant t1
 clear hwt
 go_enter Tryz.func56, Tryz.ntmps56
 go_upto_region 1 with fail
 generalize (w.alloc (.cells frZx 91)) = W0 at *
 refine wp_region_held_drew (S := fun X => Mod (fun _ => False) w X) (by kernel_rfl) (HM0.out.drew) (fun hS => ?_)
 have HB1 := Lib.hid ((Mod.refl (fun _ => False) W0).drew.blk HB0.out (fun h => h))
 generalize W0.drew = W1 at *
 refine' tk 0 _ (some 15) rfl rfl (by kernel_rfl) (fun _ _ _ h => h) (Or.inl ⟨by rfl, fun X hX => ?_⟩) hS ?_; rotate_left
 ·go_simp; exact rfl
 (try go_frame); refine' tk 1 _ (some 16) rfl rfl (by kernel_rfl) (fun _ _ _ h => h) (Or.inl ⟨by rfl, fun X hX => ?_⟩) hS ?_; rotate_left
 ·go_simp; exact rfl
 (try go_frame); refine' tk 2 _ (some 17) rfl rfl (by kernel_rfl) (fun _ _ _ h => h) (Or.inl ⟨by rfl, fun X hX => ?_⟩) hS ?_; rotate_left
 ·go_simp; exact rfl
 (try go_frame); refine' tk 3 _ (some 18) rfl rfl (by kernel_rfl) (fun _ _ _ h => h) (Or.inl ⟨by rfl, fun X hX => ?_⟩) hS ?_; rotate_left
 ·have h := (show Mod (fun _ => False) w X from hX).cellAt kmx (fun h => h); go_simp; exact rfl
 (try go_frame); refine' tk 4 _ (some 19) rfl rfl (by kernel_rfl) (fun _ _ _ h => h) (Or.inl ⟨by rfl, fun X hX => ?_⟩) hS ?_; rotate_left
 ·go_simp; exact rfl
 (try go_frame); refine' tk 5 _ (some 20) rfl rfl (by kernel_rfl) (fun _ _ _ h => h) (Or.inl ⟨by rfl, fun X hX => ?_⟩) hS ?_; rotate_left
 ·go_simp; exact rfl
 (try go_frame); refine' tk 6 _ (some 21) rfl rfl (by kernel_rfl) (fun _ _ _ h => h) (Or.inl ⟨by rfl, fun X hX => ?_⟩) hS ?_; rotate_left
 ·go_simp; exact rfl
 (try go_frame); refine' tk 7 _ (some 22) rfl rfl (by kernel_rfl) (fun _ _ _ h => h) (Or.inl ⟨by rfl, fun X hX => ?_⟩) hS ?_; rotate_left
 ·have h := (show Mod (fun _ => False) w X from hX).cellAt kou (fun h => h); go_simp; exact rfl
 (try go_frame); refine wpAnyH_ready (rs := [8]) (by kernel_rfl) (by simp) ?_
 refine arH (o := ⟨some 23, _, _, _, _, none⟩) rfl fun K hK => ?_
 go_simp
 refine (HWR.out _ hS).mono ?_
 rintro e w3 ⟨rfl, rfl⟩
 refine hK.out _ _ hS (fun hS => ?_)
 clear hK K
 refine' tk 9 _ (some 24) rfl rfl (by kernel_rfl) (fun _ _ _ h => h) (Or.inl ⟨by rfl, fun X hX => ?_⟩) hS ?_; rotate_left
 ·go_simp; exact rfl
 (try go_frame); refine wpAnyH_ready (rs := [10]) (by kernel_rfl) (by simp) ?_
 refine arH (o := ⟨some 25, _, _, _, _, none⟩) rfl fun K hK => ?_
 go_simp
 refine hK.out _ _ hS (fun hS => ?_)
 clear hK K
 refine' tk 11 _ (some 10) rfl rfl (by kernel_rfl) (fun _ _ _ h => h) (Or.inl ⟨by rfl, fun X hX => ?_⟩) hS ?_; rotate_left
 ·go_simp; exact rfl
 (try go_frame); refine wpAnyH_done (by kernel_rfl) ?_ _
 have HM1 := Lib.hid hS
 clear hS
 go_upto_region 2 with fail
 refine wp_region_held_drew (S := fun X => Mod (fun _ => False) w X ∧ Mod (fun _ => False) W1 X) (by kernel_rfl) ⟨HM1.out.drew, (Mod.refl _ _).drew⟩ (fun hS => ?_)
 generalize W1.drew = W2 at *
 refine' tk 0 _ (some 26) rfl rfl (by kernel_rfl) (fun _ _ _ h => h) (Or.inl ⟨by rfl, fun X hX => ?_⟩) hS ?_; rotate_left
 ·go_simp; exact rfl
 (try go_frame); refine' tk 1 _ (some 27) rfl rfl (by kernel_rfl) (fun _ _ _ h => h) (Or.inl ⟨by rfl, fun X hX => ?_⟩) hS ?_; rotate_left
 ·go_simp; exact rfl
 (try go_frame); refine' tk 2 _ (some 28) rfl rfl (by kernel_rfl) (fun _ _ _ h => h) (Or.inl ⟨by rfl, fun X hX => ?_⟩) hS ?_; rotate_left
 ·go_simp; exact rfl
 (try go_frame); refine' tk 3 _ (some 29) rfl rfl (by kernel_rfl) (fun _ _ _ h => h) (Or.inl ⟨by rfl, fun X hX => ?_⟩) hS ?_; rotate_left
 ·go_simp; exact rfl
 (try go_frame); refine' tk 4 _ (some 30) rfl rfl (by kernel_rfl) (fun _ _ _ h => h) (Or.inl ⟨by rfl, fun X hX => ?_⟩) hS ?_; rotate_left
 ·have h := (show Mod (fun _ => False) w X from hX.1).cellAt kgv (fun h => h); go_simp; exact rfl
 (try go_frame); refine' tk 5 _ (some 31) rfl rfl (by kernel_rfl) (fun _ _ _ h => h) (Or.inl ⟨by rfl, fun X hX => ?_⟩) hS ?_; rotate_left
 ·go_simp; exact rfl
 (try go_frame); refine' tk 6 _ (some 32) rfl rfl (by kernel_rfl) (fun _ _ _ h => h) (Or.inl ⟨by rfl, fun X hX => ?_⟩) hS ?_; rotate_left
 ·go_simp; exact rfl
 (try go_frame); refine tk 7 undef (some 33) rfl rfl (by kernel_rfl) (fun _ _ _ h => h) (Or.inr ⟨by rfl, rfl⟩) hS ?_
 (try go_frame); refine tk 8 undef (some 34) rfl rfl (by kernel_rfl) (fun _ _ _ h => h) (Or.inr ⟨by rfl, rfl⟩) hS ?_
 (try go_frame); refine tk 9 undef (some 35) rfl rfl (by kernel_rfl) (fun _ _ _ h => h) (Or.inr ⟨by rfl, rfl⟩) hS ?_
 (try go_frame); refine tk 10 undef (some 36) rfl rfl (by kernel_rfl) (fun _ _ _ h => h) (Or.inr ⟨by rfl, rfl⟩) hS ?_
 (try go_frame); refine tk 11 undef (some 37) rfl rfl (by kernel_rfl) (fun _ _ _ h => h) (Or.inr ⟨by rfl, rfl⟩) hS ?_
 (try go_frame); refine tk 12 undef (some 38) rfl rfl (by kernel_rfl) (fun _ _ _ h => h) (Or.inr ⟨by rfl, rfl⟩) hS ?_
 (try go_frame); refine tk 13 undef (some 39) rfl rfl (by kernel_rfl) (fun _ _ _ h => h) (Or.inr ⟨by rfl, rfl⟩) hS ?_
 (try go_frame); refine' tk 14 _ (some 40) rfl rfl (by kernel_rfl) (fun _ _ _ h => h) (Or.inl ⟨by rfl, fun X hX => ?_⟩) hS ?_; rotate_left
 ·go_simp; exact rfl
 (try go_frame); refine wpAnyH_done (by kernel_rfl) ?_ _
 have HM2 := Lib.hid hS.1
 have HB2 := Lib.hid (hS.2.blk HB1.out (fun h => h))
 clear hS
 have kou2 : W2.cell? ⟨(G id).sb, 0, none⟩ = some (.pointer (some ⟨(G id).ob, 0, none⟩)) := HM2.out.cellAt kou (fun h => h)
 clear kmx kgv kou kdt
 have HNX := Lib.hid (HNX.out _ HM2.out)
 have HWS : Hid (w.heap.size < W2.heap.size) := Lib.hid HB2.out.lt
 go_wp2_with (first
  | (go_at_call 105; (with_reducible refine (HNX.out).mono ?_); rintro e w5 ⟨vd, rfl, hvd, hob, hm5⟩; obtain ⟨da, dc, rfl, -⟩ := Sl.val hvd.byts; have HV := Lib.hid (And.intro hvd (And.intro hob hm5)); have HB5 := Lib.hid (hm5.blk HB2.out (fun e => HNE.out e)); clear hvd hob hm5)
  | ((with_reducible refine wpList_build_c ?_ 91 [(0, .const (.int .i64 8)), (1, .tmp 84), (2, .tmp 85), (6, .tmp 86), (5, .tmp 87)] ?_ [(0, .int .i64 8), (1, .int .u64 (id : Int)), (2, .int .u64 ((dueO o many).a : Int)), (6, .slice da (nextB o many).length dc), (5, .bool (dueO o many).e)] ?_ _ (built_stream id (dueO o many).a (nextB o many) (dueO o many).e da (nextB o many).length dc) ?_); (iterate 3 exact rfl))
  | ((with_reducible refine wpList_store_blk ?_ 91 (.tmp 8) (.tmp 88) ?_ w.heap.size ?_ frZx (frC (streamF id (dueO o many).a (nextB o many) (dueO o many).e) (.slice da (nextB o many).length dc) nilS) ?_ 91 HB5.out (sizeFrR _ _ _ rfl) (frC_size _ _ _ rfl).symm (frC_one1 _ _ _ _) ?_); (iterate 4 exact rfl); intro w9 hB9 hM9; have HB9 := Lib.hid hB9; have HM9 := Lib.hid hM9; clear hB9 hM9)
  | fail)
 refine bodyPost_ret (results_next _ rfl HB9.out rfl) rfl ?_
 have q2 := HQ.out.still HM2.out
 have hsc := (q2.strs _ HZ.out).outSS HO.out HV.out.2.1 HV.out.2.2
 have htt := hsc.tt q2 HZ.out
 refine ⟨.slice da (nextB o many).length dc, ?_, ?_, ?_⟩
 ·unfold nextF'
  rw [HG.out.2]
  rfl
 ·unfold nextF'
  rw [HG.out.2]
  exact HV.out.1.res HWS.out HM9.out
 ·unfold nextT
  rw [HG.out.1, HG.out.2]
  exact htt.res HQ.out HM2.out HWS.out HM9.out
set_option maxHeartbeats 2000000 in
theorem next_b {B : Nat} {w : World} {tb mb : Nat} {G : Int → SM} {T : Tb} (q : TBuf B w tb mb G T) {id : Nat} (hz : (id : Int) ∈ T.dom) {o : OB} (ho : (T.m id).out = some o) (hs : Small T) (many : Nat) (hm1 : 1 ≤ many) (hm2 : (many : Int) ≤ 1000000) (hr : (T.m id).given < nextWant (T.m id) o) (hr2 : ¬ givenN T < T.data) :
  Calls Tryz.prog 56 #[.pointer (some ⟨tb, 0, none⟩), .int .u64 (id : Int), .pointer (some ⟨(G id).sb, 0, none⟩), .int .i64 (many : Int)] w fun e w' => TNext B w w' tb mb G T id o many e := by
 have HQ := Lib.hid q
 have HZ := Lib.hid hz
 have HO := Lib.hid ho
 have HB0 := Lib.hid (Blk.new w frZx 91)
 have HM0 : Hid (Mod (fun _ => False) w (w.alloc (.cells frZx 91))) := Lib.hid ((Mod.refl _ _).alloc _)
 have hsw := q.strs _ hz
 have kmx : w.cell? ⟨(G id).sb, 2, none⟩ = some (.int .u64 ((T.m id).max : Int)) := hsw.blk.cellAt 2 rfl
 have kgv : w.cell? ⟨(G id).sb, 3, none⟩ = some (.int .u64 ((T.m id).given : Int)) := hsw.blk.cellAt 3 rfl
 have kou : w.cell? ⟨(G id).sb, 0, none⟩ = some (.pointer (some ⟨(G id).ob, 0, none⟩)) := by
  have := hsw.ptrs.1
  rw [ho] at this
  exact this
 have kdt : w.cell? ⟨tb, 30, none⟩ = some (.int .u64 (T.data : Int)) := q.cell 8 rfl
 have hon := hsw.out o ho
 have hmost := hon.most
 have hnum := hsw.num
 have HWR := Lib.hid (fun W (hm : Mod (fun _ => False) w W) => owritten_any (hon.still hm))
 have HGV := Lib.hid (fun W (hm : Mod (fun _ => False) w W) => given_any (q.still hm) hs.len hs.givens)
 have uw : IntKind.u64.wrap (o.b.length : Int) = (o.b.length : Int) := IntWalk.u64_in _ (by omega)
 have hwant : min ((T.m id).max : Int) (o.b.length : Int) = (nextWant (T.m id) o : Int) := by unfold nextWant; omega
 have HNX := Lib.hid (fun W (hm : Mod (fun _ => False) w W) => onext_any (hon.still hm) many (by omega) hm1)
 have HNE : Hid (¬ OS (G id).ob (G id).bv (G id).sv w.heap.size) := Lib.hid (fun hk => absurd (hon.lt _ hk).2 (Nat.lt_irrefl _))
 have HG : Hid (nextG T (T.m id) o many = (T.m id).given ∧ nextO1 T (T.m id) o many = o) := Lib.hid (by
  have e : raisesB T (T.m id) o = false := by unfold raisesB; rw [decide_eq_true hr, decide_eq_false hr2]; rfl
  unfold nextG nextO1
  rw [e]
  exact ⟨rfl, rfl⟩)
 have t1 : decide (((T.m id).given : Int) < (nextWant (T.m id) o : Int)) = true := decide_eq_true (by omega)
 have t2 : decide ((givenN T : Int) < (T.data : Int)) = false := decide_eq_false (by omega)
 have t2' : decide (givenN T < T.data) = false := decide_eq_false hr2
 clear q hz ho hsw hon hmost hnum hs hm1 hm2 hr hr2
 obtain ⟨wt, hwt⟩ : ∃ wt : Int, (nextWant (T.m id) o : Int) = wt := ⟨_, rfl⟩
 rw [hwt] at hwant t1
 clear hwt
 go_enter Tryz.func56, Tryz.ntmps56
 go_upto_region 1 with fail
 generalize (w.alloc (.cells frZx 91)) = W0 at *
 refine wp_region_held_drew (S := fun X => Mod (fun _ => False) w X) (by kernel_rfl) (HM0.out.drew) (fun hS => ?_)
 have HB1 := Lib.hid ((Mod.refl (fun _ => False) W0).drew.blk HB0.out (fun h => h))
 generalize W0.drew = W1 at *
 refine' tk 0 _ (some 15) rfl rfl (by kernel_rfl) (fun _ _ _ h => h) (Or.inl ⟨by rfl, fun X hX => ?_⟩) hS ?_; rotate_left
 ·go_simp; exact rfl
 (try go_frame); refine' tk 1 _ (some 16) rfl rfl (by kernel_rfl) (fun _ _ _ h => h) (Or.inl ⟨by rfl, fun X hX => ?_⟩) hS ?_; rotate_left
 ·go_simp; exact rfl
 (try go_frame); refine' tk 2 _ (some 17) rfl rfl (by kernel_rfl) (fun _ _ _ h => h) (Or.inl ⟨by rfl, fun X hX => ?_⟩) hS ?_; rotate_left
 ·go_simp; exact rfl
 (try go_frame); refine' tk 3 _ (some 18) rfl rfl (by kernel_rfl) (fun _ _ _ h => h) (Or.inl ⟨by rfl, fun X hX => ?_⟩) hS ?_; rotate_left
 ·have h := (show Mod (fun _ => False) w X from hX).cellAt kmx (fun h => h); go_simp; exact rfl
 (try go_frame); refine' tk 4 _ (some 19) rfl rfl (by kernel_rfl) (fun _ _ _ h => h) (Or.inl ⟨by rfl, fun X hX => ?_⟩) hS ?_; rotate_left
 ·go_simp; exact rfl
 (try go_frame); refine' tk 5 _ (some 20) rfl rfl (by kernel_rfl) (fun _ _ _ h => h) (Or.inl ⟨by rfl, fun X hX => ?_⟩) hS ?_; rotate_left
 ·go_simp; exact rfl
 (try go_frame); refine' tk 6 _ (some 21) rfl rfl (by kernel_rfl) (fun _ _ _ h => h) (Or.inl ⟨by rfl, fun X hX => ?_⟩) hS ?_; rotate_left
 ·go_simp; exact rfl
 (try go_frame); refine' tk 7 _ (some 22) rfl rfl (by kernel_rfl) (fun _ _ _ h => h) (Or.inl ⟨by rfl, fun X hX => ?_⟩) hS ?_; rotate_left
 ·have h := (show Mod (fun _ => False) w X from hX).cellAt kou (fun h => h); go_simp; exact rfl
 (try go_frame); refine wpAnyH_ready (rs := [8]) (by kernel_rfl) (by simp) ?_
 refine arH (o := ⟨some 23, _, _, _, _, none⟩) rfl fun K hK => ?_
 go_simp
 refine (HWR.out _ hS).mono ?_
 rintro e w3 ⟨rfl, rfl⟩
 refine hK.out _ _ hS (fun hS => ?_)
 clear hK K
 refine' tk 9 _ (some 24) rfl rfl (by kernel_rfl) (fun _ _ _ h => h) (Or.inl ⟨by rfl, fun X hX => ?_⟩) hS ?_; rotate_left
 ·go_simp; exact rfl
 (try go_frame); refine wpAnyH_ready (rs := [10]) (by kernel_rfl) (by simp) ?_
 refine arH (o := ⟨some 25, _, _, _, _, none⟩) rfl fun K hK => ?_
 go_simp
 refine hK.out _ _ hS (fun hS => ?_)
 clear hK K
 refine' tk 11 _ (some 10) rfl rfl (by kernel_rfl) (fun _ _ _ h => h) (Or.inl ⟨by rfl, fun X hX => ?_⟩) hS ?_; rotate_left
 ·go_simp; exact rfl
 (try go_frame); refine wpAnyH_done (by kernel_rfl) ?_ _
 have HM1 := Lib.hid hS
 clear hS
 go_upto_region 2 with fail
 refine wp_region_held_drew (S := fun X => Mod (fun _ => False) w X ∧ Mod (fun _ => False) W1 X) (by kernel_rfl) ⟨HM1.out.drew, (Mod.refl _ _).drew⟩ (fun hS => ?_)
 generalize W1.drew = W2 at *
 refine' tk 0 _ (some 26) rfl rfl (by kernel_rfl) (fun _ _ _ h => h) (Or.inl ⟨by rfl, fun X hX => ?_⟩) hS ?_; rotate_left
 ·go_simp; exact rfl
 (try go_frame); refine' tk 1 _ (some 27) rfl rfl (by kernel_rfl) (fun _ _ _ h => h) (Or.inl ⟨by rfl, fun X hX => ?_⟩) hS ?_; rotate_left
 ·go_simp; exact rfl
 (try go_frame); refine' tk 2 _ (some 28) rfl rfl (by kernel_rfl) (fun _ _ _ h => h) (Or.inl ⟨by rfl, fun X hX => ?_⟩) hS ?_; rotate_left
 ·go_simp; exact rfl
 (try go_frame); refine' tk 3 _ (some 29) rfl rfl (by kernel_rfl) (fun _ _ _ h => h) (Or.inl ⟨by rfl, fun X hX => ?_⟩) hS ?_; rotate_left
 ·go_simp; exact rfl
 (try go_frame); refine' tk 4 _ (some 30) rfl rfl (by kernel_rfl) (fun _ _ _ h => h) (Or.inl ⟨by rfl, fun X hX => ?_⟩) hS ?_; rotate_left
 ·have h := (show Mod (fun _ => False) w X from hX.1).cellAt kgv (fun h => h); go_simp; exact rfl
 (try go_frame); refine' tk 5 _ (some 31) rfl rfl (by kernel_rfl) (fun _ _ _ h => h) (Or.inl ⟨by rfl, fun X hX => ?_⟩) hS ?_; rotate_left
 ·go_simp; exact rfl
 (try go_frame); refine' tk 6 _ (some 32) rfl rfl (by kernel_rfl) (fun _ _ _ h => h) (Or.inl ⟨by rfl, fun X hX => ?_⟩) hS ?_; rotate_left
 ·go_simp; exact rfl
 (try go_frame); refine' tk 7 _ (some 33) rfl rfl (by kernel_rfl) (fun _ _ _ h => h) (Or.inl ⟨by rfl, fun X hX => ?_⟩) hS ?_; rotate_left
 ·go_simp; exact rfl
 (try go_frame); refine' tk 8 _ (some 34) rfl rfl (by kernel_rfl) (fun _ _ _ h => h) (Or.inl ⟨by rfl, fun X hX => ?_⟩) hS ?_; rotate_left
 ·go_simp; exact rfl
 (try go_frame); refine' tk 9 _ (some 35) rfl rfl (by kernel_rfl) (fun _ _ _ h => h) (Or.inl ⟨by rfl, fun X hX => ?_⟩) hS ?_; rotate_left
 ·go_simp; exact rfl
 (try go_frame); refine' tk 10 _ (some 36) rfl rfl (by kernel_rfl) (fun _ _ _ h => h) (Or.inl ⟨by rfl, fun X hX => ?_⟩) hS ?_; rotate_left
 ·have h := (show Mod (fun _ => False) w X from hX.1).cellAt kdt (fun h => h); go_simp; exact rfl
 (try go_frame); refine' tk 11 _ (some 37) rfl rfl (by kernel_rfl) (fun _ _ _ h => h) (Or.inl ⟨by rfl, fun X hX => ?_⟩) hS ?_; rotate_left
 ·go_simp; exact rfl
 (try go_frame); refine wpAnyH_ready (rs := [12]) (by kernel_rfl) (by simp) ?_
 refine arH (o := ⟨some 38, _, _, _, _, some (6, true)⟩) rfl fun K hK => ?_
 go_simp
 refine (HGV.out _ hS.1).mono ?_
 rintro e w4 ⟨rfl, hm4⟩
 refine hK.out _ _ ⟨Mod.trans hS.1 hm4, Mod.trans hS.2 hm4⟩ (fun hS => ?_)
 clear hK K hm4
 refine' tk 13 _ (some 39) rfl rfl (by kernel_rfl) (fun _ _ _ h => h) (Or.inl ⟨by rfl, fun X hX => ?_⟩) hS ?_; rotate_left
 ·go_simp; exact rfl
 (try go_frame); refine' tk 14 _ (some 40) rfl rfl (by kernel_rfl) (fun _ _ _ h => h) (Or.inl ⟨by rfl, fun X hX => ?_⟩) hS ?_; rotate_left
 ·go_simp; exact rfl
 (try go_frame); refine wpAnyH_done (by kernel_rfl) ?_ _
 have HM2 := Lib.hid hS.1
 have HB2 := Lib.hid (hS.2.blk HB1.out (fun h => h))
 clear hS
 have kou2 : w4.cell? ⟨(G id).sb, 0, none⟩ = some (.pointer (some ⟨(G id).ob, 0, none⟩)) := HM2.out.cellAt kou (fun h => h)
 clear kmx kgv kou kdt
 have HNX := Lib.hid (HNX.out _ HM2.out)
 have HWS : Hid (w.heap.size < w4.heap.size) := Lib.hid HB2.out.lt
 go_wp2_with (first
  | (go_at_call 105; (with_reducible refine (HNX.out).mono ?_); rintro e w5 ⟨vd, rfl, hvd, hob, hm5⟩; obtain ⟨da, dc, rfl, -⟩ := Sl.val hvd.byts; have HV := Lib.hid (And.intro hvd (And.intro hob hm5)); have HB5 := Lib.hid (hm5.blk HB2.out (fun e => HNE.out e)); clear hvd hob hm5)
  | ((with_reducible refine wpList_build_c ?_ 91 [(0, .const (.int .i64 8)), (1, .tmp 84), (2, .tmp 85), (6, .tmp 86), (5, .tmp 87)] ?_ [(0, .int .i64 8), (1, .int .u64 (id : Int)), (2, .int .u64 ((dueO o many).a : Int)), (6, .slice da (nextB o many).length dc), (5, .bool (dueO o many).e)] ?_ _ (built_stream id (dueO o many).a (nextB o many) (dueO o many).e da (nextB o many).length dc) ?_); (iterate 3 exact rfl))
  | ((with_reducible refine wpList_store_blk ?_ 91 (.tmp 8) (.tmp 88) ?_ w.heap.size ?_ frZx (frC (streamF id (dueO o many).a (nextB o many) (dueO o many).e) (.slice da (nextB o many).length dc) nilS) ?_ 91 HB5.out (sizeFrR _ _ _ rfl) (frC_size _ _ _ rfl).symm (frC_one1 _ _ _ _) ?_); (iterate 4 exact rfl); intro w9 hB9 hM9; have HB9 := Lib.hid hB9; have HM9 := Lib.hid hM9; clear hB9 hM9)
  | fail)
 refine bodyPost_ret (results_next _ rfl HB9.out rfl) rfl ?_
 have q2 := HQ.out.still HM2.out
 have hsc := (q2.strs _ HZ.out).outSS HO.out HV.out.2.1 HV.out.2.2
 have htt := hsc.tt q2 HZ.out
 refine ⟨.slice da (nextB o many).length dc, ?_, ?_, ?_⟩
 ·unfold nextF'
  rw [HG.out.2]
  rfl
 ·unfold nextF'
  rw [HG.out.2]
  exact HV.out.1.res HWS.out HM9.out
 ·unfold nextT
  rw [HG.out.1, HG.out.2]
  exact htt.res HQ.out HM2.out HWS.out HM9.out
set_option maxHeartbeats 2000000 in
theorem next_c {B : Nat} {w : World} {tb mb : Nat} {G : Int → SM} {T : Tb} (q : TBuf B w tb mb G T) {id : Nat} (hz : (id : Int) ∈ T.dom) {o : OB} (ho : (T.m id).out = some o) (hs : Small T) (many : Nat) (hm1 : 1 ≤ many) (hm2 : (many : Int) ≤ 1000000) (hr : (T.m id).given < nextWant (T.m id) o) (hr2 : givenN T < T.data) :
  Calls Tryz.prog 56 #[.pointer (some ⟨tb, 0, none⟩), .int .u64 (id : Int), .pointer (some ⟨(G id).sb, 0, none⟩), .int .i64 (many : Int)] w fun e w' => TNext B w w' tb mb G T id o many e := by
 have HQ := Lib.hid q
 have HZ := Lib.hid hz
 have HO := Lib.hid ho
 have HB0 := Lib.hid (Blk.new w frZx 91)
 have HM0 : Hid (Mod (fun _ => False) w (w.alloc (.cells frZx 91))) := Lib.hid ((Mod.refl _ _).alloc _)
 have hsw := q.strs _ hz
 have kmx : w.cell? ⟨(G id).sb, 2, none⟩ = some (.int .u64 ((T.m id).max : Int)) := hsw.blk.cellAt 2 rfl
 have kgv : w.cell? ⟨(G id).sb, 3, none⟩ = some (.int .u64 ((T.m id).given : Int)) := hsw.blk.cellAt 3 rfl
 have kou : w.cell? ⟨(G id).sb, 0, none⟩ = some (.pointer (some ⟨(G id).ob, 0, none⟩)) := by
  have := hsw.ptrs.1
  rw [ho] at this
  exact this
 have kdt : w.cell? ⟨tb, 30, none⟩ = some (.int .u64 (T.data : Int)) := q.cell 8 rfl
 have hon := hsw.out o ho
 have hmost := hon.most
 have hnum := hsw.num
 have HWR := Lib.hid (fun W (hm : Mod (fun _ => False) w W) => owritten_any (hon.still hm))
 have HGV := Lib.hid (fun W (hm : Mod (fun _ => False) w W) => given_any (q.still hm) hs.len hs.givens)
 have uw : IntKind.u64.wrap (o.b.length : Int) = (o.b.length : Int) := IntWalk.u64_in _ (by omega)
 have hwant : min ((T.m id).max : Int) (o.b.length : Int) = (nextWant (T.m id) o : Int) := by unfold nextWant; omega
 have HNX := Lib.hid (fun W (hm : Mod (fun _ => False) w W) => onext_any (hon.still hm) many (by omega) hm1)
 have HNE : Hid (¬ OS (G id).ob (G id).bv (G id).sv w.heap.size) := Lib.hid (fun hk => absurd (hon.lt _ hk).2 (Nat.lt_irrefl _))
 have hgz := hs.givens _ hz
 have HG : Hid (nextG T (T.m id) o many = newGiven T (T.m id) o many ∧ nextO1 T (T.m id) o many = raiseO (newGiven T (T.m id) o many) o) := Lib.hid (by
  have e : raisesB T (T.m id) o = true := by unfold raisesB; rw [decide_eq_true hr, decide_eq_true hr2]; rfl
  unfold nextG nextO1
  rw [e]
  exact ⟨rfl, rfl⟩)
 have hwle : nextWant (T.m id) o ≤ 2000 := by unfold nextWant; omega
 have hdt := (q.num).2.2.2.2.2.2.2.2.2.2.2.1
 unfold nat64 at hdt
 obtain ⟨ng, hng⟩ : ∃ ng, newGiven T (T.m id) o many = ng := ⟨_, rfl⟩
 rw [hng] at HG
 unfold newGiven at hng
 obtain ⟨d1, hd1⟩ : ∃ d1 : Int, ((nextWant (T.m id) o - (T.m id).given : Nat) : Int) = d1 := ⟨_, rfl⟩
 obtain ⟨d2, hd2⟩ : ∃ d2 : Int, ((T.data - givenN T : Nat) : Int) = d2 := ⟨_, rfl⟩
 obtain ⟨inc, hinc⟩ : ∃ inc : Int, min (min d1 (many : Int)) d2 = inc := ⟨_, rfl⟩
 obtain ⟨ngi, hngi⟩ : ∃ ngi : Int, (ng : Int) = ngi := ⟨_, rfl⟩
 have u50 : IntKind.u64.wrap ((nextWant (T.m id) o : Int) - ((T.m id).given : Int)) = d1 := by rw [IntWalk.u64_in _ (by omega)]; omega
 have u52 : IntKind.u64.wrap (many : Int) = (many : Int) := IntWalk.u64_in _ (by omega)
 have u59 : IntKind.u64.wrap ((T.data : Int) - (givenN T : Int)) = d2 := by rw [IntWalk.u64_in _ (by omega)]; omega
 have u61 : IntKind.u64.wrap (((T.m id).given : Int) + inc) = ngi := by rw [IntWalk.u64_in _ (by omega)]; omega
 have HNGI := Lib.hid hngi
 have HNGB : Hid (ng ≤ 3000000) := Lib.hid (by omega)
 have HSW := Lib.hid hsw
 have HBB : Hid ((1 : Nat) ≤ many ∧ (many : Int) ≤ 9223372036854775807) := Lib.hid ⟨hm1, by omega⟩
 have ne1 : ¬ w.heap.size = (G id).sb := fun e => by have := hsw.blk.lt; omega
 have t1 : decide (((T.m id).given : Int) < (nextWant (T.m id) o : Int)) = true := decide_eq_true (by omega)
 have t2 : decide ((givenN T : Int) < (T.data : Int)) = true := decide_eq_true (by omega)
 have t2' : decide (givenN T < T.data) = true := decide_eq_true hr2
 clear q hz ho hsw hon hmost hnum hs hm1 hm2 hr hr2 hgz hwle hdt hng hd1 hd2 hngi HNX HNE
 obtain ⟨wt, hwt⟩ : ∃ wt : Int, (nextWant (T.m id) o : Int) = wt := ⟨_, rfl⟩
 rw [hwt] at hwant t1 u50
 clear hwt
 go_enter Tryz.func56, Tryz.ntmps56
 go_upto_region 1 with fail
 generalize (w.alloc (.cells frZx 91)) = W0 at *
 refine wp_region_held_drew (S := fun X => Mod (fun _ => False) w X) (by kernel_rfl) (HM0.out.drew) (fun hS => ?_)
 have HB1 := Lib.hid ((Mod.refl (fun _ => False) W0).drew.blk HB0.out (fun h => h))
 generalize W0.drew = W1 at *
 refine' tk 0 _ (some 15) rfl rfl (by kernel_rfl) (fun _ _ _ h => h) (Or.inl ⟨by rfl, fun X hX => ?_⟩) hS ?_; rotate_left
 ·go_simp; exact rfl
 (try go_frame); refine' tk 1 _ (some 16) rfl rfl (by kernel_rfl) (fun _ _ _ h => h) (Or.inl ⟨by rfl, fun X hX => ?_⟩) hS ?_; rotate_left
 ·go_simp; exact rfl
 (try go_frame); refine' tk 2 _ (some 17) rfl rfl (by kernel_rfl) (fun _ _ _ h => h) (Or.inl ⟨by rfl, fun X hX => ?_⟩) hS ?_; rotate_left
 ·go_simp; exact rfl
 (try go_frame); refine' tk 3 _ (some 18) rfl rfl (by kernel_rfl) (fun _ _ _ h => h) (Or.inl ⟨by rfl, fun X hX => ?_⟩) hS ?_; rotate_left
 ·have h := (show Mod (fun _ => False) w X from hX).cellAt kmx (fun h => h); go_simp; exact rfl
 (try go_frame); refine' tk 4 _ (some 19) rfl rfl (by kernel_rfl) (fun _ _ _ h => h) (Or.inl ⟨by rfl, fun X hX => ?_⟩) hS ?_; rotate_left
 ·go_simp; exact rfl
 (try go_frame); refine' tk 5 _ (some 20) rfl rfl (by kernel_rfl) (fun _ _ _ h => h) (Or.inl ⟨by rfl, fun X hX => ?_⟩) hS ?_; rotate_left
 ·go_simp; exact rfl
 (try go_frame); refine' tk 6 _ (some 21) rfl rfl (by kernel_rfl) (fun _ _ _ h => h) (Or.inl ⟨by rfl, fun X hX => ?_⟩) hS ?_; rotate_left
 ·go_simp; exact rfl
 (try go_frame); refine' tk 7 _ (some 22) rfl rfl (by kernel_rfl) (fun _ _ _ h => h) (Or.inl ⟨by rfl, fun X hX => ?_⟩) hS ?_; rotate_left
 ·have h := (show Mod (fun _ => False) w X from hX).cellAt kou (fun h => h); go_simp; exact rfl
 (try go_frame); refine wpAnyH_ready (rs := [8]) (by kernel_rfl) (by simp) ?_
 refine arH (o := ⟨some 23, _, _, _, _, none⟩) rfl fun K hK => ?_
 go_simp
 refine (HWR.out _ hS).mono ?_
 rintro e w3 ⟨rfl, rfl⟩
 refine hK.out _ _ hS (fun hS => ?_)
 clear hK K
 refine' tk 9 _ (some 24) rfl rfl (by kernel_rfl) (fun _ _ _ h => h) (Or.inl ⟨by rfl, fun X hX => ?_⟩) hS ?_; rotate_left
 ·go_simp; exact rfl
 (try go_frame); refine wpAnyH_ready (rs := [10]) (by kernel_rfl) (by simp) ?_
 refine arH (o := ⟨some 25, _, _, _, _, none⟩) rfl fun K hK => ?_
 go_simp
 refine hK.out _ _ hS (fun hS => ?_)
 clear hK K
 refine' tk 11 _ (some 10) rfl rfl (by kernel_rfl) (fun _ _ _ h => h) (Or.inl ⟨by rfl, fun X hX => ?_⟩) hS ?_; rotate_left
 ·go_simp; exact rfl
 (try go_frame); refine wpAnyH_done (by kernel_rfl) ?_ _
 have HM1 := Lib.hid hS
 clear hS
 go_upto_region 2 with fail
 refine wp_region_held_drew (S := fun X => Mod (fun _ => False) w X ∧ Mod (fun _ => False) W1 X) (by kernel_rfl) ⟨HM1.out.drew, (Mod.refl _ _).drew⟩ (fun hS => ?_)
 generalize W1.drew = W2 at *
 refine' tk 0 _ (some 26) rfl rfl (by kernel_rfl) (fun _ _ _ h => h) (Or.inl ⟨by rfl, fun X hX => ?_⟩) hS ?_; rotate_left
 ·go_simp; exact rfl
 (try go_frame); refine' tk 1 _ (some 27) rfl rfl (by kernel_rfl) (fun _ _ _ h => h) (Or.inl ⟨by rfl, fun X hX => ?_⟩) hS ?_; rotate_left
 ·go_simp; exact rfl
 (try go_frame); refine' tk 2 _ (some 28) rfl rfl (by kernel_rfl) (fun _ _ _ h => h) (Or.inl ⟨by rfl, fun X hX => ?_⟩) hS ?_; rotate_left
 ·go_simp; exact rfl
 (try go_frame); refine' tk 3 _ (some 29) rfl rfl (by kernel_rfl) (fun _ _ _ h => h) (Or.inl ⟨by rfl, fun X hX => ?_⟩) hS ?_; rotate_left
 ·go_simp; exact rfl
 (try go_frame); refine' tk 4 _ (some 30) rfl rfl (by kernel_rfl) (fun _ _ _ h => h) (Or.inl ⟨by rfl, fun X hX => ?_⟩) hS ?_; rotate_left
 ·have h := (show Mod (fun _ => False) w X from hX.1).cellAt kgv (fun h => h); go_simp; exact rfl
 (try go_frame); refine' tk 5 _ (some 31) rfl rfl (by kernel_rfl) (fun _ _ _ h => h) (Or.inl ⟨by rfl, fun X hX => ?_⟩) hS ?_; rotate_left
 ·go_simp; exact rfl
 (try go_frame); refine' tk 6 _ (some 32) rfl rfl (by kernel_rfl) (fun _ _ _ h => h) (Or.inl ⟨by rfl, fun X hX => ?_⟩) hS ?_; rotate_left
 ·go_simp; exact rfl
 (try go_frame); refine' tk 7 _ (some 33) rfl rfl (by kernel_rfl) (fun _ _ _ h => h) (Or.inl ⟨by rfl, fun X hX => ?_⟩) hS ?_; rotate_left
 ·go_simp; exact rfl
 (try go_frame); refine' tk 8 _ (some 34) rfl rfl (by kernel_rfl) (fun _ _ _ h => h) (Or.inl ⟨by rfl, fun X hX => ?_⟩) hS ?_; rotate_left
 ·go_simp; exact rfl
 (try go_frame); refine' tk 9 _ (some 35) rfl rfl (by kernel_rfl) (fun _ _ _ h => h) (Or.inl ⟨by rfl, fun X hX => ?_⟩) hS ?_; rotate_left
 ·go_simp; exact rfl
 (try go_frame); refine' tk 10 _ (some 36) rfl rfl (by kernel_rfl) (fun _ _ _ h => h) (Or.inl ⟨by rfl, fun X hX => ?_⟩) hS ?_; rotate_left
 ·have h := (show Mod (fun _ => False) w X from hX.1).cellAt kdt (fun h => h); go_simp; exact rfl
 (try go_frame); refine' tk 11 _ (some 37) rfl rfl (by kernel_rfl) (fun _ _ _ h => h) (Or.inl ⟨by rfl, fun X hX => ?_⟩) hS ?_; rotate_left
 ·go_simp; exact rfl
 (try go_frame); refine wpAnyH_ready (rs := [12]) (by kernel_rfl) (by simp) ?_
 refine arH (o := ⟨some 38, _, _, _, _, some (6, true)⟩) rfl fun K hK => ?_
 go_simp
 refine (HGV.out _ hS.1).mono ?_
 rintro e w4 ⟨rfl, hm4⟩
 refine hK.out _ _ ⟨Mod.trans hS.1 hm4, Mod.trans hS.2 hm4⟩ (fun hS => ?_)
 clear hK K hm4
 refine' tk 13 _ (some 39) rfl rfl (by kernel_rfl) (fun _ _ _ h => h) (Or.inl ⟨by rfl, fun X hX => ?_⟩) hS ?_; rotate_left
 ·go_simp; exact rfl
 (try go_frame); refine' tk 14 _ (some 40) rfl rfl (by kernel_rfl) (fun _ _ _ h => h) (Or.inl ⟨by rfl, fun X hX => ?_⟩) hS ?_; rotate_left
 ·go_simp; exact rfl
 (try go_frame); refine wpAnyH_done (by kernel_rfl) ?_ _
 have HM4 := Lib.hid hS.1
 have HB4 := Lib.hid (hS.2.blk HB1.out (fun h => h))
 clear hS
 go_upto_region 3 with fail
 refine wp_region_last (S := fun X => Mod (fun _ => False) w X ∧ Mod (fun _ => False) w4 X) 23 (by kernel_rfl) ⟨HM4.out.drew, (Mod.refl _ _).drew⟩ (fun hS => ?_)
 generalize w4.drew = w4d at *
 refine' tkL 0 _ (some 41) rfl rfl (by kernel_rfl) (fun _ _ _ h => h) (Or.inl ⟨by rfl, fun X hX => ?_⟩) hS ?_; rotate_left
 ·go_simp; exact rfl
 (try go_frame); refine' tkL 1 _ (some 42) rfl rfl (by kernel_rfl) (fun _ _ _ h => h) (Or.inl ⟨by rfl, fun X hX => ?_⟩) hS ?_; rotate_left
 ·go_simp; exact rfl
 (try go_frame); refine' tkL 2 _ (some 43) rfl rfl (by kernel_rfl) (fun _ _ _ h => h) (Or.inl ⟨by rfl, fun X hX => ?_⟩) hS ?_; rotate_left
 ·go_simp; exact rfl
 (try go_frame); refine' tkL 3 _ (some 44) rfl rfl (by kernel_rfl) (fun _ _ _ h => h) (Or.inl ⟨by rfl, fun X hX => ?_⟩) hS ?_; rotate_left
 ·have h := (show Mod (fun _ => False) w X from hX.1).cellAt kgv (fun h => h); go_simp; exact rfl
 (try go_frame); refine' tkL 4 _ (some 45) rfl rfl (by kernel_rfl) (fun _ _ _ h => h) (Or.inl ⟨by rfl, fun X hX => ?_⟩) hS ?_; rotate_left
 ·go_simp; exact rfl
 (try go_frame); refine' tkL 5 _ (some 46) rfl rfl (by kernel_rfl) (fun _ _ _ h => h) (Or.inl ⟨by rfl, fun X hX => ?_⟩) hS ?_; rotate_left
 ·go_simp; exact rfl
 (try go_frame); refine' tkL 6 _ (some 47) rfl rfl (by kernel_rfl) (fun _ _ _ h => h) (Or.inl ⟨by rfl, fun X hX => ?_⟩) hS ?_; rotate_left
 ·go_simp; exact rfl
 (try go_frame); refine' tkL 7 _ (some 48) rfl rfl (by kernel_rfl) (fun _ _ _ h => h) (Or.inl ⟨by rfl, fun X hX => ?_⟩) hS ?_; rotate_left
 ·go_simp; exact rfl
 (try go_frame); refine' tkL 8 _ (some 49) rfl rfl (by kernel_rfl) (fun _ _ _ h => h) (Or.inl ⟨by rfl, fun X hX => ?_⟩) hS ?_; rotate_left
 ·have h := (show Mod (fun _ => False) w X from hX.1).cellAt kgv (fun h => h); go_simp; exact rfl
 (try go_frame); refine' tkL 9 _ (some 50) rfl rfl (by kernel_rfl) (fun _ _ _ h => h) (Or.inl ⟨by rfl, fun X hX => ?_⟩) hS ?_; rotate_left
 ·go_simp; exact rfl
 (try go_frame); refine' tkL 10 _ (some 51) rfl rfl (by kernel_rfl) (fun _ _ _ h => h) (Or.inl ⟨by rfl, fun X hX => ?_⟩) hS ?_; rotate_left
 ·go_simp; exact rfl
 (try go_frame); refine' tkL 11 _ (some 52) rfl rfl (by kernel_rfl) (fun _ _ _ h => h) (Or.inl ⟨by rfl, fun X hX => ?_⟩) hS ?_; rotate_left
 ·go_simp; exact rfl
 (try go_frame); refine' tkL 12 _ (some 53) rfl rfl (by kernel_rfl) (fun _ _ _ h => h) (Or.inl ⟨by rfl, fun X hX => ?_⟩) hS ?_; rotate_left
 ·go_simp; exact rfl
 (try go_frame); refine' tkL 13 _ (some 54) rfl rfl (by kernel_rfl) (fun _ _ _ h => h) (Or.inl ⟨by rfl, fun X hX => ?_⟩) hS ?_; rotate_left
 ·go_simp; exact rfl
 (try go_frame); refine' tkL 14 _ (some 55) rfl rfl (by kernel_rfl) (fun _ _ _ h => h) (Or.inl ⟨by rfl, fun X hX => ?_⟩) hS ?_; rotate_left
 ·go_simp; exact rfl
 (try go_frame); refine' tkL 15 _ (some 56) rfl rfl (by kernel_rfl) (fun _ _ _ h => h) (Or.inl ⟨by rfl, fun X hX => ?_⟩) hS ?_; rotate_left
 ·have h := (show Mod (fun _ => False) w X from hX.1).cellAt kdt (fun h => h); go_simp; exact rfl
 (try go_frame); refine' tkL 16 _ (some 57) rfl rfl (by kernel_rfl) (fun _ _ _ h => h) (Or.inl ⟨by rfl, fun X hX => ?_⟩) hS ?_; rotate_left
 ·go_simp; exact rfl
 (try go_frame); refine wpAnyL.ready (rs := [17]) (by kernel_rfl) (by simp) ?_
 refine (AllReadyL.cons (o := ⟨some 58, _, _, _, _, none⟩) rfl (by decide) (fun K hK => ?_) AllReadyL.nil)
 go_simp
 refine (HGV.out _ hS.1).mono ?_
 rintro e w6 ⟨rfl, hm6⟩
 refine hK.out _ _ ⟨Mod.trans hS.1 hm6, Mod.trans hS.2 hm6⟩ (fun hS => ?_)
 clear hK K hm6
 refine' tkL 18 _ (some 59) rfl rfl (by kernel_rfl) (fun _ _ _ h => h) (Or.inl ⟨by rfl, fun X hX => ?_⟩) hS ?_; rotate_left
 ·go_simp; exact rfl
 (try go_frame); refine wpAnyL.ready (rs := [19]) (by kernel_rfl) (by simp) ?_
 refine (AllReadyL.cons (o := ⟨some 60, _, _, _, _, none⟩) rfl (by decide) (fun K hK => ?_) AllReadyL.nil)
 go_simp
 refine hK.out _ _ hS (fun hS => ?_)
 clear hK K
 refine' tkL 20 _ (some 61) rfl rfl (by kernel_rfl) (fun _ _ _ h => h) (Or.inl ⟨by rfl, fun X hX => ?_⟩) hS ?_; rotate_left
 ·go_simp; exact rfl
 (try go_frame); refine' tkL 21 _ (some 62) rfl rfl (by kernel_rfl) (fun _ _ _ h => h) (Or.inl ⟨by rfl, fun X hX => ?_⟩) hS ?_; rotate_left
 ·go_simp; exact rfl
 (try go_frame); refine' tkL 22 _ (some 63) rfl rfl (by kernel_rfl) (fun _ _ _ h => h) (Or.inl ⟨by rfl, fun X hX => ?_⟩) hS ?_; rotate_left
 ·go_simp; exact rfl
 (try go_frame); refine wpAnyL.ready (rs := [23]) (by kernel_rfl) (by simp) ?_
 refine AllReadyL.closing (o := ⟨none, _, _, _, _, none⟩) rfl (fun K hK => ?_)
 have k3 := Mod.cellAt hS.1 kgv (fun h => h)
 have f3 := (HSW.out.still hS.1).blk.free 3
 go_simp
 refine hK.out _ _ ?_
 clear hK K k3 f3
 refine wpAnyL.done (by kernel_rfl) ?_ _
 have HM6 := Lib.hid hS.1
 have HB6 := Lib.hid (hS.2.blk HB4.out (fun h => h))
 clear hS
 have hs6 := HSW.out.still HM6.out
 have hn6 := hs6.num
 have hsc := hs6.cell 3 (.int .u64 (ng : Int)) (s' := { T.m id with given := ng }) rfl rfl rfl (fun _ => rfl) ⟨hn6.1, by have := HNGB.out; show nat64 ng; unfold nat64; omega, hn6.2.2⟩
 rw [HNGI.out] at hsc
 have HSC := Lib.hid hsc
 have HB7 := Lib.hid (HB6.out.setOther (a := ⟨(G id).sb, 3, none⟩) ne1 (.int .u64 ngi))
 have k0 : (w6.setCell ⟨(G id).sb, 3, none⟩ (.int .u64 ngi)).cell? ⟨(G id).sb, 0, none⟩ = some (.pointer (some ⟨(G id).ob, 0, none⟩)) := by
  have := hsc.1.ptrs.1
  rw [show ({ T.m id with given := ng } : St).out = some o from HO.out] at this
  exact this
 have k3 : (w6.setCell ⟨(G id).sb, 3, none⟩ (.int .u64 ngi)).cell? ⟨(G id).sb, 3, none⟩ = some (.int .u64 ngi) := by
  have := hsc.1.blk.cellAt 3 (v := .int .u64 (ng : Int)) rfl
  rw [HNGI.out] at this
  exact this
 clear hs6 hn6 hsc kgv kou kdt kmx
 generalize w6.setCell ⟨(G id).sb, 3, none⟩ (.int .u64 ngi) = W7 at *
 go_upto_region 4 with fail
 refine wp_region_last (S := fun X => W7.drew = X) 8 (by kernel_rfl) rfl (fun hS => ?_)
 have HSY := Lib.hid (HSC.out.1.still (Mod.refl (fun _ => False) W7).drew)
 have HMY : Hid (Mod (fun _ => False) W7 W7.drew) := Lib.hid ((Mod.refl (fun _ => False) W7).drew)
 have j0 : W7.drew.cell? ⟨(G id).sb, 0, none⟩ = some (.pointer (some ⟨(G id).ob, 0, none⟩)) := k0
 have j3 : W7.drew.cell? ⟨(G id).sb, 3, none⟩ = some (.int .u64 ngi) := k3
 have HBY := Lib.hid (HMY.out.blk HB7.out (fun h => h))
 clear k0 k3
 generalize W7.drew = Y at *
 have CA := Lib.hid (oraise_same (HSY.out.out o HO.out) (l := ng) (by have := HNGB.out; omega))
 rw [HNGI.out] at CA
 refine' tkL 0 _ (some 64) rfl rfl (by kernel_rfl) (fun _ _ _ h => h) (Or.inl ⟨by rfl, fun X hX => ?_⟩) hS ?_; rotate_left
 ·go_simp; exact rfl
 (try go_frame); refine' tkL 1 _ (some 65) rfl rfl (by kernel_rfl) (fun _ _ _ h => h) (Or.inl ⟨by rfl, fun X hX => ?_⟩) hS ?_; rotate_left
 ·go_simp; exact rfl
 (try go_frame); refine' tkL 2 _ (some 66) rfl rfl (by kernel_rfl) (fun _ _ _ h => h) (Or.inl ⟨by rfl, fun X hX => ?_⟩) hS ?_; rotate_left
 ·go_simp; exact rfl
 (try go_frame); refine' tkL 3 _ (some 67) rfl rfl (by kernel_rfl) (fun _ _ _ h => h) (Or.inl ⟨by rfl, fun X hX => ?_⟩) hS ?_; rotate_left
 ·have hX := (show Y = X from hX); subst hX; go_simp; exact rfl
 (try go_frame); refine' tkL 4 _ (some 68) rfl rfl (by kernel_rfl) (fun _ _ _ h => h) (Or.inl ⟨by rfl, fun X hX => ?_⟩) hS ?_; rotate_left
 ·go_simp; exact rfl
 (try go_frame); refine' tkL 5 _ (some 69) rfl rfl (by kernel_rfl) (fun _ _ _ h => h) (Or.inl ⟨by rfl, fun X hX => ?_⟩) hS ?_; rotate_left
 ·go_simp; exact rfl
 (try go_frame); refine' tkL 6 _ (some 70) rfl rfl (by kernel_rfl) (fun _ _ _ h => h) (Or.inl ⟨by rfl, fun X hX => ?_⟩) hS ?_; rotate_left
 ·go_simp; exact rfl
 (try go_frame); refine' tkL 7 _ (some 71) rfl rfl (by kernel_rfl) (fun _ _ _ h => h) (Or.inl ⟨by rfl, fun X hX => ?_⟩) hS ?_; rotate_left
 ·have hX := (show Y = X from hX); subst hX; go_simp; exact rfl
 (try go_frame); refine wpAnyL.ready (rs := [8]) (by kernel_rfl) (by simp) ?_
 refine AllReadyL.closing (o := ⟨some 72, _, _, _, _, none⟩) rfl (fun K hK => ?_)
 go_simp
 refine CA.out.mono ?_
 rintro e w8 ⟨rfl, hoc⟩
 have HOC := Lib.hid hoc
 refine hK.out _ _ ?_
 clear hK K hoc
 refine wpAnyL.done (by kernel_rfl) ?_ _
 have hsc2 := HSY.out.outSS (s := { T.m id with given := ng }) HO.out HOC.out.1 HOC.out.2
 have hscT := (HSC.out.trans (HSC.out.1.stay HMY.out)).trans hsc2
 have HSC8 := Lib.hid hscT
 have kou2 : w8.cell? ⟨(G id).sb, 0, none⟩ = some (.pointer (some ⟨(G id).ob, 0, none⟩)) := by
  have := hscT.1.ptrs.1
  exact this
 have hwlt : w.heap.size < w6.heap.size := HB6.out.lt
 have hno8 : ∀ k, SS (G id) { T.m id with given := ng, out := some (raiseO ng o) } k → k ≠ w.heap.size := fun k hk => by
  rcases hscT.2.2.1 k hk with e | e
  ·have := (HSW.out.lt k e).2; omega
  ·omega
 have HB2 := Lib.hid (hsc2.2.2.2.blk HBY.out (fun e => by
  have := (HSW.out.lt _ e).2
  omega))
 have HNE : Hid (¬ OS (G id).ob (G id).bv (G id).sv w.heap.size) := Lib.hid (fun e => hno8 _ (.inr (.inr (.inl ⟨rfl, e⟩))) rfl)
 have HNX := Lib.hid (onext_any (hscT.1.out (raiseO ng o) rfl) many HBB.out.2 HBB.out.1)
 have HWS : Hid (w.heap.size < w6.heap.size ∧ w.heap.size < w8.heap.size) := Lib.hid ⟨hwlt, Nat.lt_of_lt_of_le hwlt hscT.2.2.2.size⟩
 clear hsc2 hscT hwlt hno8 j0 j3
 go_wp2_with (first
  | (go_at_call 105; (with_reducible refine (HNX.out).mono ?_); rintro e w5 ⟨vd, rfl, hvd, hob, hm5⟩; obtain ⟨da, dc, rfl, -⟩ := Sl.val hvd.byts; have HV := Lib.hid (And.intro hvd (And.intro hob hm5)); have HB5 := Lib.hid (hm5.blk HB2.out (fun e => HNE.out e)); clear hvd hob hm5)
  | ((with_reducible refine wpList_build_c ?_ 91 [(0, .const (.int .i64 8)), (1, .tmp 84), (2, .tmp 85), (6, .tmp 86), (5, .tmp 87)] ?_ [(0, .int .i64 8), (1, .int .u64 (id : Int)), (2, .int .u64 ((dueO (raiseO ng o) many).a : Int)), (6, .slice da (nextB (raiseO ng o) many).length dc), (5, .bool (dueO (raiseO ng o) many).e)] ?_ _ (built_stream id (dueO (raiseO ng o) many).a (nextB (raiseO ng o) many) (dueO (raiseO ng o) many).e da (nextB (raiseO ng o) many).length dc) ?_); (iterate 3 exact rfl))
  | ((with_reducible refine wpList_store_blk ?_ 91 (.tmp 8) (.tmp 88) ?_ w.heap.size ?_ frZx (frC (streamF id (dueO (raiseO ng o) many).a (nextB (raiseO ng o) many) (dueO (raiseO ng o) many).e) (.slice da (nextB (raiseO ng o) many).length dc) nilS) ?_ 91 HB5.out (sizeFrR _ _ _ rfl) (frC_size _ _ _ rfl).symm (frC_one1 _ _ _ _) ?_); (iterate 4 exact rfl); intro w9 hB9 hM9; have HB9 := Lib.hid hB9; have HM9 := Lib.hid hM9; clear hB9 hM9)
  | fail)
 refine bodyPost_ret (results_next _ rfl HB9.out rfl) rfl ?_
 have q6 := HQ.out.still HM6.out
 have hsc3 := HSC8.out.1.outSS (o := raiseO ng o) rfl HV.out.2.1 HV.out.2.2
 have htt := (HSC8.out.trans hsc3).tt q6 HZ.out
 refine ⟨.slice da (nextB (raiseO ng o) many).length dc, ?_, ?_, ?_⟩
 ·unfold nextF'
  rw [HG.out.2]
  rfl
 ·unfold nextF'
  rw [HG.out.2]
  exact HV.out.1.res HWS.out.2 HM9.out
 ·unfold nextT
  rw [HG.out.1, HG.out.2]
  exact htt.res HQ.out HM6.out HWS.out.1 HM9.out
theorem next_any {B : Nat} {w : World} {tb mb : Nat} {G : Int → SM} {T : Tb} (q : TBuf B w tb mb G T) {id : Nat} (hz : (id : Int) ∈ T.dom) {o : OB} (ho : (T.m id).out = some o) (hs : Small T) (many : Nat) (hm1 : 1 ≤ many) (hm2 : (many : Int) ≤ 1000000) :
  Calls Tryz.prog 56 #[.pointer (some ⟨tb, 0, none⟩), .int .u64 (id : Int), .pointer (some ⟨(G id).sb, 0, none⟩), .int .i64 (many : Int)] w fun e w' => TNext B w w' tb mb G T id o many e := by
 by_cases hr : (T.m id).given < nextWant (T.m id) o
 ·by_cases hr2 : givenN T < T.data
  ·exact next_c q hz ho hs many hm1 hm2 hr hr2
  ·exact next_b q hz ho hs many hm1 hm2 hr hr2
 ·exact next_a q hz ho hs many hm1 hm2 hr
end Go.Proofs.YtahgidkpjmecdaaGreatDoor
