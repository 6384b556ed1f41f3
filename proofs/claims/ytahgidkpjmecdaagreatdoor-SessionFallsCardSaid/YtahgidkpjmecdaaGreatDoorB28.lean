/- Parts of the proof: UaT UaV UaW. -/
import Derived.Test.YtahgidkpjmecdaaGreatDoorB19
import Derived.Test.YtahgidkpjmecdaaGreatDoorB23
import Derived.Test.YtahgidkpjmecdaaGreatDoorB24
import Derived.Test.YtahgidkpjmecdaaGreatDoorB27
set_option maxRecDepth 100000
namespace Go.Proofs.YtahgidkpjmecdaaGreatDoor
open Go.RowKit Go.Maps
theorem infoU64 : (Tryz.prog.info? 34).map (fun i => (i.zero, i.size, i.bytes)) = some (some (.int .u64 0), 1, 8) := by kernel_rfl
theorem wpList_append_u {w : World} {ops : Array Oper} {rest : List Oper} {o : Oper} {a : Act} {Q : Exit → Act → World → Prop} (hgd : o.guard = none) (s x : Operand)
  (ho : o.op = .call { callee := .builtin .append, args := #[s, x], argTypes := #[43, 43] })
  (v : Value) (l : List Int) (B : Nat) (hs : a.eval s = v) (hown : OwnU w B v l) (sv : Value) (news : List Int) (hx : a.eval x = sv) (hsl : Sl w 1 sv news.length (news.map encU)) (hbytes : (l.length + news.length) * 8 ≤ 140737488355328) (hbase : B ≤ w.heap.size)
  (h : ∀ v' w', OwnU w' B v' (l ++ news) → w.grownBy w' v.ownBlock → wpList Tryz.prog ops Q rest (a.put o.dst v') w') : wpList Tryz.prog ops Q (o :: rest) a w := by
 obtain ⟨i0, hi, hz0, hz1, hz2⟩ := info_parts infoU64
 refine wpList_append_sl hgd s x 43 ho B 34 i0 (.int .u64 0) 1 8 Tryz.underlying43 hi hz0 hz1 hz2 rfl (by decide) v l.length (l.map encU) hs hown sv news.length (news.map encU) hx hsl (fun u hu => by
  obtain ⟨z, -, rfl⟩ := List.mem_map.1 hu
  rfl) hbytes (by decide) hbase ?_
 intro v' w' ho' hg
 refine h v' w' ?_ hg
 unfold OwnU
 simpa using ho'
theorem one_lit (w : World) (z : Int) : Sl (w.alloc (.cells #[.int .u64 z] 34)) 1 (.slice (some ⟨w.heap.size, 0, none⟩) 1 1) [z].length ([z].map encU) := by
 refine ⟨by simp, _, 1, rfl, Nat.le_refl _, by decide, fun h => by simp at h, fun j u hu => ⟨_, 0, rfl, ?_⟩⟩
 have hb := Blk.new w #[.int .u64 z] 34
 cases j with
 | zero =>
  have e : u = .int .u64 z := by simpa using hu.symm
  rw [e]
  exact hb.cellAt 0 rfl
 | succ j => simp at hu
theorem usort_own {w : World} {B : Nat} {a : Option Addr} {n c : Nat} {ss : List Int} (h : OwnU w B (.slice a n c) ss) (hl : ss.length ≤ lenMax) :
  Calls Tryz.prog 52 #[.slice a n c] w fun e w' => e = .returned (.tuple #[]) ∧ OwnU w' B (.slice a n c) (sortI ss) ∧ Mod (fun k => (Value.slice a n c).ownBlock = some k) w w' := by
 have e0 : sortI [] = [] := by unfold sortI; simp
 have hrow := h
 rcases hrow.2 with ⟨h1, hz⟩ | ⟨gb, cap, cur, h1, hbase, hgb, r1, r2, r3, r4⟩
 ·have hss : ss = [] := List.eq_nil_of_length_eq_zero hz
  subst hss
  simp only [Value.slice.injEq] at h1
  obtain ⟨rfl, rfl, rfl⟩ := h1
  refine (usort_nil _).mono ?_
  rintro e w2 ⟨rfl, rfl⟩
  exact ⟨rfl, by rw [e0]; exact h, Mod.refl _ _⟩
 ·simp only [Value.slice.injEq] at h1
  obtain ⟨rfl, rfl, rfl⟩ := h1
  have hH : Sort.Holds encU w gb 0 ss.toArray := holds_of_block_u hgb (by simpa using r4)
  refine (usort_any gb c ss w hH hl).mono ?_
  rintro e w2 ⟨rfl, n, os, rfl⟩
  have h1 := ownsRow_sorted_u (n := n) (os := os) (sortI_len ss) hbase hgb r1 r2 r3
  refine ⟨rfl, ?_, (Mod.refl (fun k => (Value.slice (some ⟨gb, 0, none⟩) ss.length c).ownBlock = some k) w).grown (grownBy_sorted_u (n := n) (os := os) (sortI ss).toArray) (fun k hk _ => hk)⟩
  unfold OwnU
  rw [sortI_len] at h1 ⊢
  exact h1
def SomeR (w w' : World) (l : List Int) (e : Ending) : Prop := ∃ a c, e = .returned (.slice a l.length c) ∧ OwnU w' w.heap.size (.slice a l.length c) l ∧ Mod (fun _ => False) w w'
set_option maxHeartbeats 4000000 in
set_option maxRecDepth 10000 in
theorem some_any {B : Nat} {w : World} {sb mb : Nat} {G : Int → PM} {S : Ses} {ov : Value} (q : SBf B w sb mb G S ov) (hl : S.dom.length ≤ lenMax) (fn b : Nat) (P : Int → Bool) (hen : ∀ args w, (callFunc fn args).run Tryz.prog w = .ok (.enter fn args) w)
  (hc : ∀ w1, Mod (fun _ => False) w w1 → ∀ z ∈ S.dom, Calls Tryz.prog fn #[.int .u64 z, .pointer (some ⟨(G z).pb, 0, none⟩), .pointer (some ⟨b, 0, none⟩)] w1 fun e w' => e = .returned (.bool (P z)) ∧ Mod (fun _ => False) w1 w') :
  Calls Tryz.prog 30 #[.pointer (some ⟨sb, 0, none⟩), .func (.func fn) #[] #[.pointer (some ⟨b, 0, none⟩)]] w fun e w' => SomeR w w' (sortI (S.dom.filter P)) e := by
 have c4 : w.cell? ⟨sb, 4, none⟩ = some (.map (some mb)) := q.blk.cellAt 4 rfl
 obtain ⟨w0, hr0, hrg0, hM0⟩ := q.map.range Tryz.underlying34 (t := 66) Tryz.underlying66
 have hml : mb < w.heap.size := q.map.lt
 have HR0 := Lib.hid hrg0
 have HM0 := Lib.hid hM0
 have HL := Lib.hid hl
 have HC := Lib.hid hc
 have HND := Lib.hid q.map.nodup
 have hr1 : w.heap.size < w0.heap.size := hrg0.ne.2
 have HML := Lib.hid hml
 clear q hl hc hrg0 hM0 hml
 generalize hr : w.heap.size = r at *
 have HRR := Lib.hid hr
 have HR1 := Lib.hid hr1
 clear hr
 go_enter Tryz.func30, Tryz.ntmps30
 go_wp2_with fail
 go_loopw [5] (fun s5 wr => ∃ (left : Int → Bool) (cnt : Nat) (ss : List Int) (a5 : Option Addr) (c5 : Nat), s5 = .slice a5 (ss.filter P).length c5 ∧ Hid (IRange 34 .u64 wr mb r S.dom (fun z => .pointer (some ⟨(G z).pb, 0, none⟩)) left cnt ∧ Come S.dom left ss ∧ Mod (fun _ => False) w wr ∧ OwnU wr (r + 1) (.slice a5 (ss.filter P).length c5) (ss.filter P) ∧ r < wr.heap.size))
  (fun _ wr => wr.rangeLeft mb r)
 case atStart => exact ⟨_, _, [], none, 0, rfl, Lib.hid ⟨HR0.out, Come.start _, HM0.out, World.ownsRow_nil _ _ _ _, HR1.out⟩⟩
 case round =>
  obtain ⟨left, cnt, ss, a5, c5, rfl, HI⟩ := hrel
  have HO := Lib.hid HI.out.2.2.2.1
  have hlen := HI.out.2.1.len
  have hfl : (ss.filter P).length ≤ ss.length := List.length_filter_le _ _
  rcases HI.out.1.next Tryz.underlying34 0 with ⟨h0, hl0, hx⟩ | ⟨z, w2, cnt2, hlz, hx, hrg2, hlt, hM2, hsz, hen2⟩
  ·have HP := Lib.hid ((HI.out.2.1.perm HND.out hl0).filter P)
   have HSO := Lib.hid (usort_own HO.out (by have := HL.out; omega))
   clear hl0 h0 hlen hfl
   go_wp2_with (first
    | (go_at_call 52; go_loud ((with_reducible refine HSO.out.mono ?_); rintro e w3 ⟨rfl, ho3, hm3⟩; have H3 := Lib.hid (And.intro ho3 hm3); clear ho3 hm3))
    | fail)
   go_ret
   have e1 : sortI (ss.filter P) = sortI (S.dom.filter P) := sortI_perm HP.out
   have e2 : (ss.filter P).length = (sortI (S.dom.filter P)).length := by rw [← e1, sortI_len]
   refine ⟨a5, c5, by rw [← e2]; rfl, ?_, HI.out.2.2.1.trans' H3.out.2 (fun k hk e => by have h1 := (World.ownsRow.lt HO.out k e).1; have h2 := HRR.out; omega)⟩
   rw [← e2, ← e1]
   exact own_mono H3.out.1 (by have h2 := HRR.out; omega)
  ·have hzd := HI.out.1.dom z hlz
   have HC2 := Lib.hid (HI.out.2.1.step hlz hzd)
   have HMW : Hid (Mod (fun _ => False) w w2) := Lib.hid (HI.out.2.2.1.trans' hM2 (fun k hk e => by have := HRR.out; omega))
   have HRG := Lib.hid hrg2
   have HLT := Lib.hid (And.intro hlt HI.out.1.left_eq)
   have HO2 := Lib.hid (HO.out.kept hM2 (fun g hg e => by have h1 := (World.ownsRow.lt HO.out g hg).1; omega))
   have HW2 : Hid (r < w2.heap.size) := Lib.hid (by rw [hsz]; exact HI.out.2.2.2.2)
   have HCC := Lib.hid (HC.out w2 HMW.out z hzd)
   have HFL := Lib.hid (show (ss.filter P).length ≤ 1000 by have h1 := HL.out; have h2 : lenMax ≤ 1000 := (by decide); omega)
   cases hp : P z with
   | false =>
    rw [hp] at HCC
    have HF : Hid ((ss ++ [z]).filter P = ss.filter P) := Lib.hid (by simp [hp])
    clear hp hzd hlz hlt hrg2 hM2 hlen hfl hsz
    go_wp2_with (first
     | (((with_reducible refine HCC.out.mono ?_); rintro e w3 ⟨rfl, hm3⟩; have HM3 := Lib.hid hm3; clear hm3))
     | fail)
    have HRG3 := Lib.hid (HRG.out.kept HM3.out (fun h => h) (fun h => h))
    go_roundw
    case rel => exact ⟨_, _, ss ++ [z], a5, c5, by rw [HF.out], Lib.hid ⟨HRG3.out, HC2.out, HMW.out.trans HM3.out, by rw [HF.out]; exact HO2.out.kept HM3.out (fun _ _ h => h), Nat.lt_of_lt_of_le HW2.out HM3.out.size⟩⟩
    case measure => rw [HRG3.out.left_eq, HLT.out.2]; exact HLT.out.1
   | true =>
    rw [hp] at HCC
    have HF : Hid ((ss ++ [z]).filter P = ss.filter P ++ [z]) := Lib.hid (by simp [hp])
    clear hp hzd hlz hlt hrg2 hM2 hlen hfl hsz
    go_wp2_with (first
     | (((with_reducible refine HCC.out.mono ?_); rintro e w3 ⟨rfl, hm3⟩; have HM3 := Lib.hid hm3; have HO3 : Hid (OwnU (w3.alloc (.cells #[.int .u64 z] 34)) (r + 1) (.slice a5 (ss.filter P).length c5) (ss.filter P)) := Lib.hid ((HO2.out.kept hm3 (fun _ _ h => h)).kept (S := fun _ => False) ((Mod.refl _ _).alloc _) (fun _ _ h => h)); have HSZ := Lib.hid hm3.size; clear hm3))
     | ((with_reducible refine wpList_append_u ?_ (.tmp 24) (.tmp 26) ?_ (.slice a5 (ss.filter P).length c5) (ss.filter P) (r + 1) ?_ HO3.out (.slice (some ⟨w3.heap.size, 0, none⟩) 1 1) [z] ?_ (one_lit w3 z) ?_ ?_ ?_); (iterate 4 exact rfl); (· have := HFL.out; simp only [List.length_singleton]; omega); (· rw [World.size_alloc]; have := HSZ.out; have := HW2.out; omega); intro v4 w4 ho4 hg4; obtain ⟨a4, c4', rfl⟩ := ho4.val; have HO4 := Lib.hid ho4; have HM4 : Hid (Mod (fun k => (Value.slice a5 (ss.filter P).length c5).ownBlock = some k) w3 w4) := Lib.hid (((Mod.refl _ _).alloc _).trans ((Mod.refl (fun j => (Value.slice a5 (ss.filter P).length c5).ownBlock = some j) _).grown hg4 (fun k hk _ => hk))); clear ho4 hg4)
     | fail)
    have HRG3 := Lib.hid ((HRG.out.kept HM3.out (fun h => h) (fun h => h)).kept HM4.out (fun h => by have h1 := (World.ownsRow.lt HO.out _ h).1; have h2 := HML.out; have h3 := HRR.out; omega) (fun h => by have h1 := (World.ownsRow.lt HO.out _ h).1; omega))
    go_roundw
    case rel => exact ⟨_, _, ss ++ [z], a4, c4', by rw [HF.out]; simp, Lib.hid ⟨HRG3.out, HC2.out, (HMW.out.trans HM3.out).trans' HM4.out (fun k hk e => by have h1 := (World.ownsRow.lt HO.out k e).1; have h3 := HRR.out; omega), by rw [HF.out]; exact HO4.out, by have h1 := HW2.out; have h2 := HM3.out.size; have h3 := HM4.out.size; omega⟩⟩
    case measure => rw [HRG3.out.left_eq, HLT.out.2]; exact HLT.out.1
def openB (S : Ses) (z : Int) : Bool := (S.m z).mine && !(S.m z).told || !S.client && (S.m z).asked && !(S.m z).replied
def safeB (S : Ses) (z : Int) : Bool := (S.m z).mine && S.limited && decide ((S.limit : Int) ≤ z) && !(S.m z).asked
set_option maxRecDepth 10000 in
theorem sopen1_any {B : Nat} {w : World} {sb mb b : Nat} {G : Int → PM} {S : Ses} {ov : Value} (q : SBf B w sb mb G S ov) {z : Int} (hz : z ∈ S.dom) (hb : w.cell? ⟨b, 0, none⟩ = some (.pointer (some ⟨sb, 0, none⟩))) :
  Calls Tryz.prog 31 #[.int .u64 z, .pointer (some ⟨(G z).pb, 0, none⟩), .pointer (some ⟨b, 0, none⟩)] w fun e w' => e = .returned (.bool (openB S z)) ∧ Mod (fun _ => False) w w' := by
 have hp := (q.parts z hz).blk
 have p4 : w.cell? ⟨(G z).pb, 4, none⟩ = some (.bool (S.m z).mine) := hp.cellAt 4 rfl
 have p5 : w.cell? ⟨(G z).pb, 5, none⟩ = some (.bool (S.m z).asked) := hp.cellAt 5 rfl
 have p6 : w.cell? ⟨(G z).pb, 6, none⟩ = some (.bool (S.m z).told) := hp.cellAt 6 rfl
 have p7 : w.cell? ⟨(G z).pb, 7, none⟩ = some (.bool (S.m z).replied) := hp.cellAt 7 rfl
 have c0 : w.cell? ⟨sb, 0, none⟩ = some (.bool S.client) := q.blk.cellAt 0 rfl
 clear q hp hz
 unfold openB
 generalize (S.m z).mine = b1 at *
 generalize (S.m z).asked = b2 at *
 generalize (S.m z).told = b3 at *
 generalize (S.m z).replied = b4 at *
 generalize S.client = b5 at *
 cases b1 <;> cases b3 <;> (
  go_enter Tryz.func31, Tryz.ntmps31
  go_wp2_with fail
  all_goals (
   go_ret
   refine ⟨?_, Mod.refl _ _⟩
   (try simp_all)))
set_option maxRecDepth 10000 in
theorem safe1_any {B : Nat} {w : World} {sb mb b : Nat} {G : Int → PM} {S : Ses} {ov : Value} (q : SBf B w sb mb G S ov) {z : Int} (hz : z ∈ S.dom) (hb : w.cell? ⟨b, 0, none⟩ = some (.pointer (some ⟨sb, 0, none⟩))) :
  Calls Tryz.prog 39 #[.int .u64 z, .pointer (some ⟨(G z).pb, 0, none⟩), .pointer (some ⟨b, 0, none⟩)] w fun e w' => e = .returned (.bool (safeB S z)) ∧ Mod (fun _ => False) w w' := by
 have hp := (q.parts z hz).blk
 have p4 : w.cell? ⟨(G z).pb, 4, none⟩ = some (.bool (S.m z).mine) := hp.cellAt 4 rfl
 have p5 : w.cell? ⟨(G z).pb, 5, none⟩ = some (.bool (S.m z).asked) := hp.cellAt 5 rfl
 have c7 : w.cell? ⟨sb, 7, none⟩ = some (.int .u64 (S.limit : Int)) := q.blk.cellAt 7 rfl
 have c8 : w.cell? ⟨sb, 8, none⟩ = some (.bool S.limited) := q.blk.cellAt 8 rfl
 clear q hp hz
 unfold safeB
 generalize (S.m z).mine = b1 at *
 generalize (S.m z).asked = b2 at *
 generalize S.limited = b3 at *
 generalize (S.limit : Int) = n at *
 have hn : n ≤ z ∨ ¬ n ≤ z := Decidable.em _
 rcases hn with hn | hn <;> cases b1 <;> cases b3 <;> cases b2 <;> (
  go_enter Tryz.func39, Tryz.ntmps39
  go_wp2_with fail
  all_goals (
   go_ret
   refine ⟨?_, Mod.refl _ _⟩
   (try simp_all)))
theorem sopen_s {W w : World} (l : List Th) {sb mb : Nat} {G : Int → PM} {S : Ses} {ov : Value} {m : List Th} (h : At W w (l ++ sesTh W.heap.size sb mb G S ov :: m)) (hl : S.dom.length ≤ lenMax) :
  Calls Tryz.prog 12 #[.pointer (some ⟨sb, 0, none⟩)] w fun e w' => ∃ a c, e = .returned (.slice a (sortI (S.dom.filter (openB S))).length c) ∧ At W w' (idsTh W.heap.size (.slice a (sortI (S.dom.filter (openB S))).length c) (sortI (S.dom.filter (openB S))) :: (l ++ sesTh W.heap.size sb mb G S ov :: m)) := by
 have hM : Mod (fun _ => False) w (w.alloc (.cells #[.pointer (some ⟨sb, 0, none⟩)] 27)) := (Mod.refl _ _).alloc _
 have hb := Blk.new w #[.pointer (some ⟨sb, 0, none⟩)] 27
 have h1 := h.still hM
 have q : SBf W.heap.size _ sb mb G S ov := h1.get l
 have HS := Lib.hid (some_any q hl 31 w.heap.size (openB S) (fun _ _ => by kernel_rfl) (fun w1 hm z hz => sopen1_any (q.still hm) hz (hm.cellAt (hb.cellAt 0 rfl) (fun h => h))))
 have HH := Lib.hid h1
 have hmf : ∀ (fn : Fn) (first cap : Array Value) (w : World), (Instr.makeFunc fn first cap).run Tryz.prog w = .ok (.func fn first cap) w := fun _ _ _ _ => rfl
 clear h hl hM hb h1 q
 go_enter Tryz.func12, Tryz.ntmps12
 go_wp2_with (first
  | (go_at_call 30; go_loud ((with_reducible refine HS.out.mono ?_); rintro e w2 ⟨a, c, rfl, ho, hm⟩; have HO := Lib.hid (And.intro ho hm); clear ho hm))
  | fail)
 go_ret
 exact ⟨a, c, rfl, HH.out.push HO.out.2 (idsTh W.heap.size _ _) (own_mono HO.out.1 HH.out.le) (fun k hk => World.ownsRow.lt HO.out.1 k hk)⟩
theorem safe_s {W w : World} (l : List Th) {sb mb : Nat} {G : Int → PM} {S : Ses} {ov : Value} {m : List Th} (h : At W w (l ++ sesTh W.heap.size sb mb G S ov :: m)) (hl : S.dom.length ≤ lenMax) :
  Calls Tryz.prog 20 #[.pointer (some ⟨sb, 0, none⟩)] w fun e w' => ∃ a c, e = .returned (.slice a (sortI (S.dom.filter (safeB S))).length c) ∧ At W w' (idsTh W.heap.size (.slice a (sortI (S.dom.filter (safeB S))).length c) (sortI (S.dom.filter (safeB S))) :: (l ++ sesTh W.heap.size sb mb G S ov :: m)) := by
 have hM : Mod (fun _ => False) w (w.alloc (.cells #[.pointer (some ⟨sb, 0, none⟩)] 27)) := (Mod.refl _ _).alloc _
 have hb := Blk.new w #[.pointer (some ⟨sb, 0, none⟩)] 27
 have h1 := h.still hM
 have q : SBf W.heap.size _ sb mb G S ov := h1.get l
 have HS := Lib.hid (some_any q hl 39 w.heap.size (safeB S) (fun _ _ => by kernel_rfl) (fun w1 hm z hz => safe1_any (q.still hm) hz (hm.cellAt (hb.cellAt 0 rfl) (fun h => h))))
 have HH := Lib.hid h1
 have hmf : ∀ (fn : Fn) (first cap : Array Value) (w : World), (Instr.makeFunc fn first cap).run Tryz.prog w = .ok (.func fn first cap) w := fun _ _ _ _ => rfl
 clear h hl hM hb h1 q
 go_enter Tryz.func20, Tryz.ntmps20
 go_wp2_with (first
  | (go_at_call 30; go_loud ((with_reducible refine HS.out.mono ?_); rintro e w2 ⟨a, c, rfl, ho, hm⟩; have HO := Lib.hid (And.intro ho hm); clear ho hm))
  | fail)
 go_ret
 exact ⟨a, c, rfl, HH.out.push HO.out.2 (idsTh W.heap.size _ _) (own_mono HO.out.1 HH.out.le) (fun k hk => World.ownsRow.lt HO.out.1 k hk)⟩
def insI (z : Int) : List Int → List Int
 | [] => [z]
 | a :: r => if z ≤ a then z :: a :: r else a :: insI z r
def isrt : List Int → List Int
 | [] => []
 | a :: r => insI a (isrt r)
def sortedB : List Int → Bool
 | a :: b :: r => decide (a ≤ b) && sortedB (b :: r)
 | _ => true
theorem sortedB_pw : ∀ {l : List Int}, sortedB l = true → l.Pairwise (fun x y => (decide (x ≤ y)) = true)
 | [], _ => .nil
 | [_], _ => List.pairwise_singleton _ _
 | a :: b :: r, h => by
  unfold sortedB at h
  simp only [Bool.and_eq_true, decide_eq_true_eq] at h
  have ih := sortedB_pw h.2
  refine List.pairwise_cons.2 ⟨fun z hz => ?_, ih⟩
  rcases List.mem_cons.1 hz with rfl | hz
  ·exact decide_eq_true h.1
  ·have h3 := List.rel_of_pairwise_cons ih hz
   have h4 := of_decide_eq_true h3
   have h5 := h.1
   exact decide_eq_true (by omega)
theorem isrt_ok {l : List Int} (h : (l.isPerm (isrt l) && sortedB (isrt l)) = true) : sortI l = isrt l := by
 rw [Bool.and_eq_true] at h
 exact sortI_of (List.isPerm_iff.1 h.1) (sortedB_pw h.2)
def smallB (T : Tb) : Bool := decide (T.dom.length ≤ 1000) && decide (T.read ≤ 2000000000) && (T.dom.all fun z => decide (topS (T.m z) ≤ 1000000) && decide ((T.m z).given ≤ 1000000))
theorem small_of {T : Tb} (h : smallB T = true) : Small T := by
 unfold smallB at h
 simp only [Bool.and_eq_true, decide_eq_true_eq, List.all_eq_true] at h
 exact ⟨h.1.1, fun z hz => (h.2 z hz).1, fun z hz => (h.2 z hz).2, h.1.2⟩
def comeB (T : Tb) (id off n : Nat) (last : Bool) : Bool := decide (findE T id false = 0) && (if (id : Int) ∈ T.dom then !(T.m id).over && (T.m id).inn.isSome else true) && decide (off + n ≤ 1000000) && risesB T (if (id : Int) ∈ T.dom then some (id : Int) else none) (off + n) && decide (putErr (inO T id) off n last = 0)
theorem come_of {T : Tb} {id off n : Nat} {last : Bool} (h : comeB T id off n last = true) : ComeOk T id off n last := by
 unfold comeB at h
 simp only [Bool.and_eq_true, decide_eq_true_eq] at h
 obtain ⟨⟨⟨⟨a1, a2⟩, a3⟩, a4⟩, a5⟩ := h
 refine ⟨a1, fun hd => ?_, by omega, a4, a5⟩
 rw [if_pos hd, Bool.and_eq_true, Bool.not_eq_true'] at a2
 exact ⟨a2.1, Option.isSome_iff_exists.1 a2.2⟩
def takeB (T : Tb) (f : Fr) : Bool :=
 if f.k = 8 then decide (f.id ≤ 1000000) && smallB T && comeB T f.id f.a f.d.length f.fl
 else if f.k = 17 then decide (f.id ≤ 1000000) && decide ((f.id : Int) ∈ T.dom) && decide (findE T f.id true = 0) && decide (f.a ≤ 1000000000)
 else decide (f.k = 16) && decide (f.a ≤ 1000000000)
theorem take_of {T : Tb} {f : Fr} (h : takeB T f = true) : takeC2 T f := by
 unfold takeB at h
 split at h
 ·rename_i hk
  simp only [Bool.and_eq_true, decide_eq_true_eq] at h
  exact .inl ⟨hk, by omega, small_of h.1.2, come_of h.2⟩
 ·split at h
  ·rename_i hk
   simp only [Bool.and_eq_true, decide_eq_true_eq] at h
   exact .inr (.inl ⟨hk, by unfold okId; omega, h.1.1.2, h.1.2, by unfold nat64; omega⟩)
  ·simp only [Bool.and_eq_true, decide_eq_true_eq] at h
   exact .inr (.inr ⟨h.1, by unfold nat64; omega⟩)
def passB : List Fr → Tb → Tb → Bool
 | [], _, _ => true
 | f :: r, A, B => takeB B f && decide (f.id ≤ 1000000) && decide (f.d.length ≤ 1000000) && passB r (ackT A f) (takeT2 B f)
theorem pass_of : ∀ {l : List Fr} {A B : Tb}, passB l A B = true → passC l A B
 | [], _, _, _ => trivial
 | f :: r, A, B, h => by
  unfold passB at h
  simp only [Bool.and_eq_true, decide_eq_true_eq] at h
  exact ⟨take_of h.1.1.1, by unfold okId; omega, by omega, pass_of h.2⟩
def halfX (A B : Tb) : Tb × Tb := passL (framesL (isrt A.dom) A 5000).l (framesL (isrt A.dom) A 5000).T B
def halfB (A B : Tb) : Bool := (A.dom.isPerm (isrt A.dom) && sortedB (isrt A.dom)) && finvB A && passB (framesL (isrt A.dom) A 5000).l (framesL (isrt A.dom) A 5000).T B
theorem half_of {A B : Tb} (h : halfB A B = true) : halfC A B ∧ halfR A B = halfX A B := by
 unfold halfB at h
 rw [Bool.and_eq_true, Bool.and_eq_true] at h
 have e := framesO_L (isrt_ok h.1.1) 5000
 unfold halfC halfR halfX
 rw [e]
 exact ⟨⟨finv_of h.1.2, pass_of h.2⟩, rfl⟩
def roundX (A B : Tb) : Tb × Tb := ((halfX (halfX A B).2 (halfX A B).1).2, (halfX (halfX A B).2 (halfX A B).1).1)
def carryX : Nat → Tb → Tb → Tb × Tb
 | 0, A, B => (A, B)
 | n + 1, A, B => carryX n (roundX A B).1 (roundX A B).2
def carryB : Nat → Tb → Tb → Bool
 | 0, _, _ => true
 | n + 1, A, B => halfB A B && halfB (halfX A B).2 (halfX A B).1 && carryB n (roundX A B).1 (roundX A B).2
theorem carry_of : ∀ {n : Nat} {A B : Tb}, carryB n A B = true → carryC n A B ∧ carryN n A B = carryX n A B
 | 0, _, _, _ => ⟨trivial, rfl⟩
 | n + 1, A, B, h => by
  unfold carryB at h
  rw [Bool.and_eq_true, Bool.and_eq_true] at h
  obtain ⟨a1, a2⟩ := half_of h.1.1
  obtain ⟨b1, b2⟩ := half_of h.1.2
  obtain ⟨c1, c2⟩ := carry_of h.2
  have er : roundR A B = roundX A B := by unfold roundR roundX; rw [a2, b2]
  unfold carryC carryN
  rw [er, a2]
  exact ⟨⟨a1, b1, c1⟩, c2⟩
def lookX (client : Bool) : List Int → Tb → Tb
 | [], T => T
 | z :: r, T => lookX client r (if (z.toNat % 4 = 2 ∧ client = true) ∨ (z.toNat % 4 = 3 ∧ client = false) then T else rdT T z.toNat allN)
def pathF : List Fd := [⟨[112, 97, 116, 104], [47]⟩]
def bodyB : List UInt8 := [98, 111, 100, 121]
def xa1 : Tb := startT tabC
def xb1 : Tb := startT tabS
def xc1 : Ses := startS (ses0 true) (openV tabC true)
def xs1 : Ses := startS (ses0 false) (openV tabS true)
def xa2 : Tb := askT xa1 pathF bodyB
def xc2 : Ses := askS xc1 xa1 pathF bodyB
theorem carry1 : carryB 3 xa2 xb1 = true := by kernel_rfl
def xa3 : Tb := (carryX 3 xa2 xb1).1
def xb3 : Tb := (carryX 3 xa2 xb1).2
def xb4 : Tb := rdT (rdT xb3 0 allN) 2 allN
def xs2 : Ses := toldS (inS xs1 0) 0
def ctlS (n : Nat) (S : Ses) (z : Int) : Ses := match ctlR n S z [] with | some x => x.1 | none => S
def ctlEv (n : Nat) (S : Ses) (z : Int) : List Ev := match ctlR n S z [] with | some x => x.2 | none => []
theorem ctl_of {n : Nat} {S : Ses} {z : Int} {L : List Ev} (h : (ctlR n S z []).isSome = true) : ctlR n S z L = some (ctlS n S z, L ++ ctlEv n S z) := by
 unfold ctlS ctlEv
 unfold ctlR at h ⊢
 cases h1 : ctlIn S z with
 | none => rw [h1] at h; cases h
 | some x =>
  rw [h1] at h
  dsimp only at h ⊢
  cases h2 : ctlL n x.1 x.2 with
  | none => rw [h2] at h; cases h
  | some y => dsimp only; rw [List.nil_append]
def inB (S : Ses) (T : Tb) (id : Nat) : Ses := withB (inS S id) id (((inS S id).m id).b ++ rdB T id allN)
def xs3 : Ses := ctlS 5 (inB xs2 (rdT xb3 0 allN) 2) 2
theorem ctl1 : (ctlR 5 (inB xs2 (rdT xb3 0 allN) 2) 2 []).isSome = true ∧ ctlEv 5 (inB xs2 (rdT xb3 0 allN) 2) 2 = [] := ⟨by kernel_rfl, by kernel_rfl⟩
def xb5 : Tb := ansT xb4 0 pathF []
def xs4 : Ses := ansS xs3 xb4 0 pathF []
def xb6 : Tb := goT xs4 xb5 4
def xs5 : Ses := goS xs4 4
theorem ansE1 : ansE xb4 0 pathF [] = 0 := by kernel_rfl
theorem goE1 : goE xs4 4 = 0 := by kernel_rfl
theorem carry2 : carryB 3 xa3 xb6 = true := by kernel_rfl
def xa7 : Tb := (carryX 3 xa3 xb6).1
def xb7 : Tb := (carryX 3 xa3 xb6).2
def xa8 : Tb := rdT (rdT xa7 0 allN) 3 allN
def xc3 : Ses := toldS (inS xc2 0) 0
def xc4 : Ses := ctlS 5 (inB xc3 (rdT xa7 0 allN) 3) 3
theorem ctl2 : (ctlR 5 (inB xc3 (rdT xa7 0 allN) 3) 3 []).isSome = true ∧ ctlEv 5 (inB xc3 (rdT xa7 0 allN) 3) 3 = [leaveE 4] := ⟨by kernel_rfl, by kernel_rfl⟩
def evA : Ev := evO false 0 pathF bodyB
def evB : Ev := evO true 0 pathF []
theorem lk_of {id : Nat} {T : Tb} {S : Ses} {L : List Ev} {S' : Ses} {L' : List Ev} (h : (decide (S.dom.length ≤ 1000) && decide (T.read ≤ 2000000000) && decide ((T.m id).taken ≤ 2000000000) && !codeB (rdT T id allN) id && decide (((inS S id).m id).b.length + (rdB T id allN).length ≤ 100000)) = true) (hk : LkM id T S L S' L' ∨ LkC id T S L S' L') : LkStep id T S L (rdT T id allN) S' L' := by
 simp only [Bool.and_eq_true, decide_eq_true_eq, Bool.not_eq_true'] at h
 exact .inr ⟨h.1.1.1.1, h.1.1.1.2, h.1.1.2, h.1.2, h.2, rfl, hk⟩
theorem lkm_of {id : Nat} {T : Tb} {S : Ses} {L : List Ev} {l : List Fd} {data : List UInt8} (h : (decide (id % 4 = 0) && (!S.client || decide ((id : Int) ∈ S.dom)) && !(inS S id).limited && !((inS S id).m id).dropped && !((inS S id).m id).told && rdD T id allN && decide (packE l data = 0)) = true) (hb : ((inS S id).m id).b ++ rdB T id allN = secO l data) : LkM id T S L (toldS (inS S id) id) (L ++ [evO (inS S id).client id l data]) := by
 simp only [Bool.and_eq_true, Bool.or_eq_true, decide_eq_true_eq, Bool.not_eq_true'] at h
 obtain ⟨⟨⟨⟨⟨⟨a1, a2⟩, a3⟩, a4⟩, a5⟩, a6⟩, a7⟩ := h
 refine ⟨a1, fun hc => ?_, fun hl => ?_, .inr (.inl ⟨a4, a5, a6, l, data, hb, a7, rfl, rfl⟩)⟩
 ·rcases a2 with e | e
  ·rw [hc] at e; cases e
  ·exact e
 ·rw [a3] at hl; cases hl
theorem look1 : LkSteps [0, 2, 3] xb3 xs1 [] xb4 xs3 [evA] := by
 refine ⟨rdT xb3 0 allN, xs2, [evA], ?_, by decide, xb4, xs3, [evA], ?_, by decide, xb4, xs3, [evA], ?_, by decide, rfl, rfl, rfl⟩
 ·exact lk_of (id := 0) (by kernel_rfl) (.inl (lkm_of (id := 0) (L := []) (l := pathF) (data := bodyB) (by kernel_rfl) (by kernel_rfl)))
 ·refine lk_of (id := 2) (by kernel_rfl) (.inr ⟨.inl ⟨rfl, by kernel_rfl⟩, by decide, by kernel_rfl, 5, ?_⟩)
  have h1 := ctl_of (L := [evA]) ctl1.1
  rw [ctl1.2] at h1
  exact h1
 ·exact .inl ⟨.inr ⟨rfl, by kernel_rfl⟩, of_decide_eq_true (by kernel_rfl), rfl, rfl, rfl⟩
theorem look2 : LkSteps [0, 2, 3] xa7 xc2 [] xa8 xc4 [evB, leaveE 4] := by
 refine ⟨rdT xa7 0 allN, xc3, [evB], ?_, by decide, rdT xa7 0 allN, xc3, [evB], ?_, by decide, xa8, xc4, [evB, leaveE 4], ?_, by decide, rfl, rfl, rfl⟩
 ·exact lk_of (id := 0) (by kernel_rfl) (.inl (lkm_of (id := 0) (L := []) (l := pathF) (data := []) (by kernel_rfl) (by kernel_rfl)))
 ·exact .inl ⟨.inl ⟨rfl, by kernel_rfl⟩, of_decide_eq_true (by kernel_rfl), rfl, rfl, rfl⟩
 ·refine lk_of (id := 3) (by kernel_rfl) (.inr ⟨.inr ⟨rfl, by kernel_rfl⟩, by decide, by kernel_rfl, 5, ?_⟩)
  have h1 := ctl_of (L := [evB]) ctl2.1
  rw [ctl2.2] at h1
  exact h1
theorem ids3 : sortI xb3.dom = [0, 2, 3] := (isrt_ok (l := xb3.dom) (by kernel_rfl)).trans (show isrt xb3.dom = [0, 2, 3] by kernel_rfl)
theorem ids7 : sortI xa7.dom = [0, 2, 3] := (isrt_ok (l := xa7.dom) (by kernel_rfl)).trans (show isrt xa7.dom = [0, 2, 3] by kernel_rfl)
theorem opens1 : (sortI (xs3.dom.filter (openB xs3))).length = 1 := by rw [isrt_ok (l := xs3.dom.filter (openB xs3)) (by kernel_rfl)]; kernel_rfl
theorem opens2 : (sortI (xc4.dom.filter (openB xc4))).length = 0 := by rw [isrt_ok (l := xc4.dom.filter (openB xc4)) (by kernel_rfl)]; kernel_rfl
theorem safes2 : (sortI (xc4.dom.filter (safeB xc4))).length = 0 := by rw [isrt_ok (l := xc4.dom.filter (safeB xc4)) (by kernel_rfl)]; kernel_rfl
theorem small1 : xs3.dom.length ≤ lenMax ∧ xc4.dom.length ≤ lenMax ∧ xb3.dom.length ≤ lenMax ∧ xa7.dom.length ≤ lenMax := ⟨of_decide_eq_true (by kernel_rfl), of_decide_eq_true (by kernel_rfl), of_decide_eq_true (by kernel_rfl), of_decide_eq_true (by kernel_rfl)⟩
theorem startA : (openId tabC true : Int) ∉ tabC.dom ∧ tabC.dom.length ≤ 1000 ∧ openOk tabC true = true := ⟨of_decide_eq_true (by kernel_rfl), of_decide_eq_true (by kernel_rfl), by kernel_rfl⟩
theorem startB : (openId tabS true : Int) ∉ tabS.dom ∧ tabS.dom.length ≤ 1000 ∧ openOk tabS true = true := ⟨of_decide_eq_true (by kernel_rfl), of_decide_eq_true (by kernel_rfl), by kernel_rfl⟩
theorem askA : (openId xa1 false : Int) ∉ xa1.dom ∧ (openId xa1 false : Int) ∉ xc1.dom ∧ xa1.dom.length ≤ 1000 ∧ xc1.dom.length ≤ 1000 := ⟨of_decide_eq_true (by kernel_rfl), of_decide_eq_true (by kernel_rfl), of_decide_eq_true (by kernel_rfl), of_decide_eq_true (by kernel_rfl)⟩
theorem askO : askE xa1 pathF bodyB = 0 ∧ askV xa1 pathF bodyB = 0 := ⟨by kernel_rfl, by kernel_rfl⟩
theorem flagsA : xc1.client = true ∧ xc1.started = true ∧ xc1.over = false ∧ xc1.limited = false := ⟨by kernel_rfl, by kernel_rfl, by kernel_rfl, by kernel_rfl⟩
theorem flagsB : xs3.client = false ∧ xs3.over = false ∧ (0 : Int) ∈ xs3.dom ∧ (xs3.m 0).asked = true ∧ (xs3.m 0).replied = false := ⟨by kernel_rfl, by kernel_rfl, of_decide_eq_true (by kernel_rfl), by kernel_rfl, by kernel_rfl⟩
theorem flagsC : xs4.client = false ∧ xs4.started = true ∧ xs4.over = false := ⟨by kernel_rfl, by kernel_rfl, by kernel_rfl⟩
theorem flagsD : xc4.client = true ∧ xc4.started = true ∧ xc4.over = false ∧ xc4.limited = true ∧ xc4.limit = 4 := ⟨by kernel_rfl, by kernel_rfl, by kernel_rfl, by kernel_rfl, by kernel_rfl⟩
theorem flagsE : xs1.over = false ∧ xc2.over = false := ⟨by kernel_rfl, by kernel_rfl⟩
theorem At.fours {W w : World} {a b c d : Th} {m : List Th} (h : At W w (a :: b :: c :: d :: m)) : At W w (b :: d :: a :: c :: m) :=
 h.perm ((List.Perm.swap b a _).trans (((List.perm_append_comm (l₁ := [a, c]) (l₂ := [d])).append_right m).cons b))
theorem At.fours' {W w : World} {a b c d : Th} {m : List Th} (h : At W w (b :: d :: a :: c :: m)) : At W w (a :: b :: c :: d :: m) :=
 h.perm ((List.Perm.swap b a _).trans (((List.perm_append_comm (l₁ := [a, c]) (l₂ := [d])).append_right m).cons b)).symm
theorem At.flip {W w : World} {a b c d : Th} {m : List Th} (h : At W w (a :: b :: c :: d :: m)) : At W w (c :: d :: a :: b :: m) :=
 h.perm ((List.perm_append_comm (l₁ := [a, b]) (l₂ := [c, d])).append_right m)
theorem At.last4 {W w : World} {e a b c d : Th} {m : List Th} (h : At W w (e :: a :: b :: c :: d :: m)) : At W w (a :: b :: c :: d :: e :: m) :=
 h.perm ((List.perm_append_comm (l₁ := [e]) (l₂ := [a, b, c, d])).append_right m)
def pathC : Array Value := #[.string ⟨#[112, 97, 116, 104]⟩, .string ⟨#[47]⟩]
theorem fldv_path {w : World} {b : Nat} {ty : TypeId} (hb : Blk w b pathC ty) : FldV w (.slice (some ⟨b, 0, none⟩) 1 1) pathF := by
 refine ⟨rfl, some ⟨b, 0, none⟩, 1, rfl, Nat.le_refl _, by decide, fun h => by simp at h, fun j u hu => ⟨b, 0, rfl, ?_⟩⟩
 rw [Nat.zero_add]
 exact hb.cellAt j (by
  match j, hu with
  | 0, hu => exact hu
  | 1, hu => exact hu)
theorem pathOk : FdsOk pathF := by
 intro f hf
 rcases List.mem_cons.1 hf with rfl | hf
 ·decide
 ·cases hf
theorem body_bv : (bodyB.map bv).toArray = #[.int .u8 98, .int .u8 111, .int .u8 100, .int .u8 121] := by kernel_rfl
section
variable {W w : World} {sb mb tb mt : Nat} {G : Int → PM} {GT : Int → SM} {m : List Th}
theorem startC_s (h : At W w (sesTh W.heap.size sb mb G (ses0 true) nilS :: tabTh W.heap.size tb mt GT tabC :: m)) (hT : Tabs W) :
  Calls Tryz.prog 10 #[.pointer (some ⟨sb, 0, none⟩), .pointer (some ⟨tb, 0, none⟩)] w fun e w' => e = .returned (.int .i64 0) ∧ ∃ G' GT', At W w' (sesTh W.heap.size sb mb G' xc1 nilS :: tabTh W.heap.size tb mt GT' xa1 :: m) :=
 start_s h hT rfl startA.1 startA.2.1 startA.2.2
theorem startS_s (h : At W w (sesTh W.heap.size sb mb G (ses0 false) nilS :: tabTh W.heap.size tb mt GT tabS :: m)) (hT : Tabs W) :
  Calls Tryz.prog 10 #[.pointer (some ⟨sb, 0, none⟩), .pointer (some ⟨tb, 0, none⟩)] w fun e w' => e = .returned (.int .i64 0) ∧ ∃ G' GT', At W w' (sesTh W.heap.size sb mb G' xs1 nilS :: tabTh W.heap.size tb mt GT' xb1 :: m) :=
 start_s h hT rfl startB.1 startB.2.1 startB.2.2
theorem askA_s (h : At W w (sesTh W.heap.size sb mb G xc1 nilS :: tabTh W.heap.size tb mt GT xa1 :: m)) (hT : Tabs W) (hU : UTabs W) (k : Nat × Nat) :
  Calls Tryz.prog 11 #[.pointer (some ⟨sb, 0, none⟩), .pointer (some ⟨tb, 0, none⟩), .slice (some ⟨w.heap.size, 0, none⟩) 1 1, .slice (some ⟨w.heap.size + 1, 0, none⟩) 4 4] ((w.alloc (.cells #[.string ⟨#[112, 97, 116, 104]⟩, .string ⟨#[47]⟩] 39)).alloc (.cells #[.int .u8 98, .int .u8 111, .int .u8 100, .int .u8 121] 5 k)) fun e w' => e = .returned (.tuple #[.int .u64 0, .int .i64 0]) ∧ ∃ G' GT', At W w' (sesTh W.heap.size sb mb G' xc2 nilS :: tabTh W.heap.size tb mt GT' xa2 :: blkTh w.heap.size pathC 39 :: m) := by
 have e1 : (w.alloc (.cells #[.string ⟨#[112, 97, 116, 104]⟩, .string ⟨#[47]⟩] 39)).heap.size = w.heap.size + 1 := by simp
 have hb := Blk.new w #[.string ⟨#[112, 97, 116, 104]⟩, .string ⟨#[47]⟩] 39
 have h1 := h.push (((Mod.refl (fun _ => False) w).alloc (.cells #[.string ⟨#[112, 97, 116, 104]⟩, .string ⟨#[47]⟩] 39))) (blkTh w.heap.size pathC 39) hb (fun k hk => by have : k = w.heap.size := hk; rw [e1]; omega)
 have hB := byts_lit_v (w.alloc (.cells #[.string ⟨#[112, 97, 116, 104]⟩, .string ⟨#[47]⟩] 39)) bodyB #[.int .u8 98, .int .u8 111, .int .u8 100, .int .u8 121] 4 k body_bv.symm rfl (by decide)
 rw [e1] at hB
 have h2 := h1.still ((Mod.refl (fun _ => False) (w.alloc (.cells #[.string ⟨#[112, 97, 116, 104]⟩, .string ⟨#[47]⟩] 39))).alloc (.cells #[.int .u8 98, .int .u8 111, .int .u8 100, .int .u8 121] 5 k))
 have h3 : At W _ (sesTh W.heap.size sb mb G xc1 nilS :: tabTh W.heap.size tb mt GT xa1 :: blkTh w.heap.size pathC 39 :: m) := h2.perm ((List.perm_append_comm (l₁ := [blkTh w.heap.size pathC 39]) (l₂ := [sesTh W.heap.size sb mb G xc1 nilS, tabTh W.heap.size tb mt GT xa1])).append_right m)
 have hbl : Blk _ w.heap.size pathC 39 := h3.get [_, _]
 refine (ask_s h3 hT hU flagsA.1 flagsA.2.1 flagsA.2.2.1 flagsA.2.2.2 (l := pathF) (data := bodyB) (fldv_path hbl) (by decide) pathOk hB (by decide) askA.1 askA.2.1 askA.2.2.1 askA.2.2.2).mono ?_
 rintro e w' ⟨he, G', GT', h4⟩
 rw [askO.1, askO.2] at he
 exact ⟨he, G', GT', h4⟩
theorem carry1_s {ta ma : Nat} {GA GB : Int → SM} (h : At W w (tabTh W.heap.size ta ma GA xa2 :: tabTh W.heap.size tb mb GB xb1 :: m)) (hT : Tabs W) :
  Calls Tryz.prog 15 #[.pointer (some ⟨ta, 0, none⟩), .pointer (some ⟨tb, 0, none⟩)] w fun e w' => CarryR W w' ta ma tb mb xa3 xb3 m e := by
 have h1 := carry_s h hT (carry_of carry1).1
 rw [(carry_of carry1).2] at h1
 exact h1
theorem carry2_s {ta ma : Nat} {GA GB : Int → SM} (h : At W w (tabTh W.heap.size ta ma GA xa3 :: tabTh W.heap.size tb mb GB xb6 :: m)) (hT : Tabs W) :
  Calls Tryz.prog 15 #[.pointer (some ⟨ta, 0, none⟩), .pointer (some ⟨tb, 0, none⟩)] w fun e w' => CarryR W w' ta ma tb mb xa7 xb7 m e := by
 have h1 := carry_s h hT (carry_of carry2).1
 rw [(carry_of carry2).2] at h1
 exact h1
theorem look1_s (h : At W w (sesTh W.heap.size sb mb G xs1 nilS :: tabTh W.heap.size tb mt GT xb3 :: m)) (hU : UTabs W) :
  Calls Tryz.prog 16 #[.pointer (some ⟨sb, 0, none⟩), .pointer (some ⟨tb, 0, none⟩)] w fun e w' => LookR W w' sb mb tb mt xb4 xs3 [evA] m e :=
 look_s h hU flagsE.1 small1.2.2.1 (by rw [ids3]; exact look1)
theorem look2_s (h : At W w (sesTh W.heap.size sb mb G xc2 nilS :: tabTh W.heap.size tb mt GT xa7 :: m)) (hU : UTabs W) :
  Calls Tryz.prog 16 #[.pointer (some ⟨sb, 0, none⟩), .pointer (some ⟨tb, 0, none⟩)] w fun e w' => LookR W w' sb mb tb mt xa8 xc4 [evB, leaveE 4] m e :=
 look_s h hU flagsE.2 small1.2.2.2 (by rw [ids7]; exact look2)
theorem open1_s (h : At W w (sesTh W.heap.size sb mb G xs3 nilS :: m)) :
  Calls Tryz.prog 12 #[.pointer (some ⟨sb, 0, none⟩)] w fun e w' => ∃ a c, e = .returned (.slice a 1 c) ∧ At W w' (sesTh W.heap.size sb mb G xs3 nilS :: m) := by
 refine (sopen_s [] h small1.1).mono ?_
 rintro e w' ⟨a, c, rfl, h1⟩
 exact ⟨a, c, by rw [opens1], At.drop h1⟩
theorem open2_s (h : At W w (sesTh W.heap.size sb mb G xc4 nilS :: m)) :
  Calls Tryz.prog 12 #[.pointer (some ⟨sb, 0, none⟩)] w fun e w' => ∃ a c, e = .returned (.slice a 0 c) ∧ At W w' (sesTh W.heap.size sb mb G xc4 nilS :: m) := by
 refine (sopen_s [] h small1.2.1).mono ?_
 rintro e w' ⟨a, c, rfl, h1⟩
 exact ⟨a, c, by rw [opens2], At.drop h1⟩
theorem safe2_s (h : At W w (sesTh W.heap.size sb mb G xc4 nilS :: m)) :
  Calls Tryz.prog 20 #[.pointer (some ⟨sb, 0, none⟩)] w fun e w' => ∃ a c, e = .returned (.slice a 0 c) ∧ At W w' (sesTh W.heap.size sb mb G xc4 nilS :: m) := by
 refine (safe_s [] h small1.2.1).mono ?_
 rintro e w' ⟨a, c, rfl, h1⟩
 exact ⟨a, c, by rw [safes2], At.drop h1⟩
theorem ansA_s {b : Nat} (h : At W w (sesTh W.heap.size sb mb G xs3 nilS :: tabTh W.heap.size tb mt GT xb4 :: m)) (hT : Tabs W) (hU : UTabs W) (hb : Blk w b pathC 39) :
  Calls Tryz.prog 13 #[.pointer (some ⟨sb, 0, none⟩), .pointer (some ⟨tb, 0, none⟩), .int .u64 0, .slice (some ⟨b, 0, none⟩) 1 1, .slice none 0 0] w fun e w' => e = .returned (.int .i64 0) ∧ ∃ G' GT', At W w' (sesTh W.heap.size sb mb G' xs4 nilS :: tabTh W.heap.size tb mt GT' xb5 :: m) := by
 refine (ans_s h hT hU flagsB.1 flagsB.2.1 (id := 0) (by unfold okId; decide) flagsB.2.2.1 flagsB.2.2.2.1 flagsB.2.2.2.2 (l := pathF) (data := []) (fldv_path hb) (by decide) pathOk (Sl.nil w 1) (by decide)).mono ?_
 rintro e w' ⟨he, G', GT', h4⟩
 rw [ansE1] at he
 exact ⟨he, G', GT', h4⟩
theorem goA_s (h : At W w (sesTh W.heap.size sb mb G xs4 nilS :: tabTh W.heap.size tb mt GT xb5 :: m)) (hT : Tabs W) :
  Calls Tryz.prog 14 #[.pointer (some ⟨sb, 0, none⟩), .pointer (some ⟨tb, 0, none⟩), .int .u64 4] w fun e w' => e = .returned (.int .i64 0) ∧ ∃ G' GT', At W w' (sesTh W.heap.size sb mb G' xs5 nilS :: tabTh W.heap.size tb mt GT' xb6 :: m) := by
 refine (goaway_s h hT flagsC.1 flagsC.2.1 flagsC.2.2 (id := 4) (by decide)).mono ?_
 rintro e w' ⟨he, G', GT', h4⟩
 rw [goE1] at he
 exact ⟨he, G', GT', h4⟩
theorem ev_at {X : Nat → Prop} {a : Option Addr} {n c : Nat} {L : List Ev} {l : List Th} (h : At W w (l ++ evsTh W.heap.size X (.slice a n c) L :: m)) {i : Nat} {e : Ev} (hi : L[i]? = some e) : ∃ g vb, a = some ⟨g, 0, none⟩ ∧ w.cell? ⟨g, i * 5, none⟩ = some (.int .i64 e.k) ∧ w.cell? ⟨g, i * 5 + 3, none⟩ = some vb ∧ OwnB w W.heap.size vb e.b := by
 obtain ⟨g, cs, e1, ⟨vf, vb, rfl, h2, h3, _⟩, hr⟩ := OwnEI.at (show OwnEI w W.heap.size X (.slice a n c) L from h.get l) hi
 exact ⟨g, vb, e1, hr 0 _ rfl, hr 3 _ rfl, h3⟩
end
end Go.Proofs.YtahgidkpjmecdaaGreatDoor
