/- Parts of the proof: TkH Beq GaF VMap. -/
import Derived.Test.YtahgidkpjmecdaaGreatDoorB01
import Derived.Test.YtahgidkpjmecdaaGreatDoorB02
import Derived.Deep.RegionHeld
import Derived.WalkLawsBesides
import Derived.Deep.RegionHeld3
import Derived.Maps.OwnOps
import Derived.Maps.Views
set_option maxRecDepth 100000
namespace Go.Proofs.YtahgidkpjmecdaaGreatDoor
theorem takeH {P : Program} {ops : Array Oper} {Q : Exit → Act → World → Prop} {md : Region.Mode} {S : World → Prop} {i : Nat} {oi : Oper} {v : Value} {fuel : Nat} {listed : Array Bool} {a : Act} {w : World} (d : Option Tmp) (hi : ops[i]? = some oi) (hd : oi.dst = d)
  (hs : Region.noSelect ops = true) (hf : Region.free md ops listed i = true) (hr : (Region.ready md ops listed).contains i = true)
  (hQ : ∀ c a w, Q (.panic c) (a.put d v) w → Q (.panic c) a w) (hy : YieldsIf P ops S oi v a) (hS : S w)
  (h : wpAnyH P md ops Q S fuel (listed.setIfInBounds i true) (a.put d v) w) : wpAnyH P md ops Q S (fuel + 1) listed a w := by
 subst hd
 exact wpAnyH_take hi hs hf hr hQ hy hS h
theorem tk {P : Program} {ops : Array Oper} {Q : Exit → Act → World → Prop} {md : Region.Mode} {S : World → Prop} {oi : Oper} {fuel : Nat} {listed : Array Bool} {a : Act} {w : World} (i : Nat) (v : Value) (d : Option Tmp) (hi : ops[i]? = some oi) (hd : oi.dst = d) (hk : (Region.noSelect ops && Region.free md ops listed i && (Region.ready md ops listed).contains i) = true) (hQ : ∀ c a w, Q (.panic c) (a.put d v) w → Q (.panic c) a w) (hy : YieldsIf P ops S oi v a) (hS : S w) (h : wpAnyH P md ops Q S fuel (listed.setIfInBounds i true) (a.put d v) w) : wpAnyH P md ops Q S (fuel + 1) listed a w := by
 rw [Bool.and_eq_true, Bool.and_eq_true] at hk
 exact takeH d hi hd hk.1.1 hk.1.2 hk.2 hQ hy hS h
theorem arH {P : Program} {ops : Array Oper} {Q : Exit → Act → World → Prop} {md : Region.Mode} {S : World → Prop} {fuel : Nat} {listed : Array Bool} {a : Act} {w : World} {i : Nat} {o : Oper} (ho : ops[i]? = some o) (h : ∀ K' : Act → World → Prop, Shut (∀ a w, S w → (S w → wpAnyH P md ops Q S fuel (listed.setIfInBounds i true) a w) → K' a w) → if Region.wanted o (yielded ops a.tmps) = true then Oper.wp P o a w K' Q else K' (a.put o.dst undef) w) : AllReadyH P md ops Q S fuel listed a w [i] := AllReadyH.cons ho h AllReadyH.nil
end Go.Proofs.YtahgidkpjmecdaaGreatDoor
set_option maxRecDepth 100000
namespace Go.Proofs.YtahgidkpjmecdaaGreatDoor
open Go.RowKit
set_option maxRecDepth 10000 in
theorem conv_any {w : World} {v : Value} {l : List UInt8} (h : Byts w v l) : (convert 31 9 v).run Tryz.prog w = .ok (.string ⟨l.toArray⟩) w := by
 by_cases h0 : l = []
 ·subst h0
  obtain ⟨a, cap, rfl, _⟩ := byts_val h
  cases a with
  | none => exact run_convert_bytes_nil (P := Tryz.prog) w 31 5 Tryz.underlying31 Tryz.underlying5 _ _ 9 Tryz.underlying9
  | some ad =>
   rw [run_convert_bytes_string (P := Tryz.prog) w 31 9 5 _ _ _ Tryz.underlying31 Tryz.underlying5 Tryz.underlying9]
   exact run_bytesToString w ad 0 cap [] (by simp [loadCells, loadCellsFrom, Sem.run_pure])
 ·obtain ⟨b, off, cap, rfl, h1, h2, h3⟩ := byts_addr h h0
  have := run_convert_bytes_arg (P := Tryz.prog) w 31 5 Tryz.underlying31 Tryz.underlying5 b off l.length cap (l.map fun x => (x.toNat : Int)) (by simp) (fun i hi => by
   have hx := h3 i _ (List.getElem?_eq_getElem hi)
   rw [hx]
   simp [List.getD, hi, bv]) 9 Tryz.underlying9
  rw [this]
  congr 2
  unfold strOfNums
  congr 1
  apply Array.toList_inj.1
  simp [List.map_map, Function.comp_def]
theorem toList_mk (l : List UInt8) : (ByteArray.mk l.toArray).toList = l := by rw [Go.ByteArray.toList_eq]
set_option maxRecDepth 10000 in
theorem eq_any {w : World} {a b : Value} {la lb : List UInt8} (ha : Byts w a la) (hb : Byts w b lb) :
  Calls Tryz.prog 214 #[a, b] w fun e w' => w = w' ∧ e = .returned (.bool (decide (la = lb))) := by
 have ca := conv_any ha
 have cb := conv_any hb
 obtain ⟨sa, hsa, hsa'⟩ : ∃ sa : ByteArray, sa = ⟨la.toArray⟩ ∧ sa.toList = la := ⟨_, rfl, toList_mk la⟩
 obtain ⟨sb, hsb, hsb'⟩ : ∃ sb : ByteArray, sb = ⟨lb.toArray⟩ ∧ sb.toList = lb := ⟨_, rfl, toList_mk lb⟩
 obtain ⟨aa, ac, rfl, _⟩ := byts_val ha
 obtain ⟨ba, bc, rfl, _⟩ := byts_val hb
 rw [← hsa] at ca
 rw [← hsb] at cb
 have HA := Lib.hid hsa'
 have HB := Lib.hid hsb'
 clear hsa hsb hsa' hsb' ha hb
 generalize la.length = na at *
 generalize lb.length = nb at *
 go_enter Tryz.func214, Tryz.ntmps214
 go_wp2
 go_ret
 refine ⟨rfl, ret_bool ?_⟩
 rw [HA.out, HB.out, Bool.eq_iff_iff]
 simp
def rgA (s : Nat × Nat) : Array Value := #[.int .u64 (s.1 : Int), .int .u64 (s.2 : Int)]
theorem partRg0 (w : World) (s : Nat × Nat) : (part 34 (rgA s) 0).run Tryz.prog w = .ok (.int .u64 (s.1 : Int)) w := by kernel_rfl
theorem partRg1 (w : World) (s : Nat × Nat) : (part 34 (rgA s) 1).run Tryz.prog w = .ok (.int .u64 (s.2 : Int)) w := by kernel_rfl
theorem fieldsRg : (Program.fieldsOf Tryz.prog 240).toList.map (fun f => (decide (f.name ≠ "_"), f.type, f.offset)) = [(true, 34, 0), (true, 34, 1)] := by kernel_rfl
theorem guardRg : Program.eqGuardType Tryz.prog (Program.depth Tryz.prog) 240 = false := by kernel_rfl
theorem underRg : Program.underlying Tryz.prog 240 = some (.struct (Program.fieldsOf Tryz.prog 240)) := by kernel_rfl
theorem stoodRg : Program.stoodInHeld Tryz.prog 240 = false := by kernel_rfl
theorem twoRg {α : Type} {β : Type} {l : List α} {f : α → β} {a b : β} (h : l.map f = [a, b]) : ∃ x0 x1, l = [x0, x1] ∧ f x0 = a ∧ f x1 = b := by
 match l, h with
 | [x0, x1], h => simp at h; exact ⟨x0, x1, rfl, h.1, h.2⟩
theorem eqInt (w : World) (d : Nat) (m n : Nat) : (Op.equalIn (d + 1) 34 (.int .u64 (m : Int)) (.int .u64 (n : Int))).run Tryz.prog w = .ok (m == n) w := by
 rw [run_equalIn_int w d 34 .u64 .u64 _ _ Tryz.underlying34]
 congr 1
 rw [Bool.eq_iff_iff]; simp only [beq_iff_eq]; omega
theorem eqFields_cons {P : Program} (w : World) (d : Nat) (xs ys : Array Value) (f : Field) (fs : List Field) (a b : Value) (r : Bool) (hn : decide (f.name ≠ "_") = true) (h1 : (part f.type xs f.offset).run P w = .ok a w) (h2 : (part f.type ys f.offset).run P w = .ok b w) (h3 : (Op.equalIn d f.type a b).run P w = .ok r w) (R : Bool) (h4 : (Op.eqFields d xs ys fs).run P w = .ok R w) :
  (Op.eqFields d xs ys (f :: fs)).run P w = .ok (r && R) w := by
 rw [Op.eqFields, if_pos (by simpa using hn)]
 simp only [Sem.run_bind, h1, h2, h3, Result.andThen_ok]
 cases r
 ·simp
 ·simp [h4]
theorem eqRg (w : World) (d : Nat) (s t : Nat × Nat) :
  (Op.equalIn (d + 3) 240 (.agg (rgA s)) (.agg (rgA t))).run Tryz.prog w = .ok (decide (s = t)) w := by
 rw [run_equalIn_struct w (d + 2) 240 _ _ underRg stoodRg]
 obtain ⟨x0, x1, e, k0, k1⟩ := twoRg fieldsRg
 simp only [Prod.mk.injEq] at k0 k1
 obtain ⟨n0, t0, o0⟩ := k0
 obtain ⟨n1, t1, o1⟩ := k1
 rw [e]
 have s1 := eqFields_cons w (d + 2) (rgA s) (rgA t) x1 [] _ _ _ n1 (by rw [t1, o1]; exact partRg1 w s) (by rw [t1, o1]; exact partRg1 w t) (by rw [t1]; exact eqInt w (d + 1) s.2 t.2) true (by simp [Op.eqFields])
 have s0 := eqFields_cons w (d + 2) (rgA s) (rgA t) x0 _ _ _ _ n0 (by rw [t0, o0]; exact partRg0 w s) (by rw [t0, o0]; exact partRg0 w t) (by rw [t0]; exact eqInt w (d + 1) s.1 t.1) _ s1
 rw [s0]
 refine congrArg (fun b => (Result.ok b w : Result Bool)) ?_
 obtain ⟨a, b⟩ := s
 obtain ⟨c, d⟩ := t
 rw [Bool.eq_iff_iff]
 simp only [Bool.and_true, Bool.and_eq_true, beq_iff_eq, decide_eq_true_eq, Prod.mk.injEq]
set_option maxRecDepth 20000 in
theorem rg_neq (w : World) (s t : Nat × Nat) : (binOp .neq 240 (.agg (rgA s)) (.agg (rgA t))).run Tryz.prog w = .ok (.bool (!decide (s = t))) w := by
 rw [run_neq_struct, show (10000 : Nat) = 9997 + 3 from rfl, eqRg w 9997 s t]
 rfl
theorem exec_eq {P : Program} {w : World} {a : Act} {op : Oper} {b : BinOp} {ty t' : TypeId} {x y : Operand} (ho : op.op = .binOp b ty x y t') {X Y : Array Value} (hx : a.eval x = .agg X) (hy : a.eval y = .agg Y) (hg : P.eqGuardType P.depth ty = false) {r : Bool} (hrun : (binOp b ty (.agg X) (.agg Y)).run P w = .ok (.bool r) w) : (execOp a.eval op).run P w = .ok (.value (.bool r)) w := by
 unfold execOp
 simp only [ho, hx, hy, Sem.run_bind, run_eqGuard_agg (P := P) w b ty x y X Y hg, Result.andThen_ok, hrun, Sem.run_pure]
theorem take_eq_step {α : Type} {l m : List α} {k : Nat} {x y : α} (h : l.take k = m.take k) (hx : l[k]? = some x) (hy : m[k]? = some y) (he : x = y) : l.take (k + 1) = m.take (k + 1) := by
 rw [take_snoc l k x hx, take_snoc m k y hy, h, he]
set_option maxHeartbeats 1000000 in
set_option maxRecDepth 10000 in
theorem rgeq_any {w : World} {va vb : Value} {la lb : List (Nat × Nat)} (ha : RgV w va la) (hb : RgV w vb lb) (hn : (la.length : Int) ≤ 100000) (hm : (lb.length : Int) ≤ 100000) :
  Calls Tryz.prog 215 #[va, vb] w fun e w' => e = .returned (.bool (decide (la = lb))) ∧ Mod (fun _ => False) w w' := by
 have HA := Lib.hid ha
 have HB := Lib.hid hb
 obtain ⟨a, ca, rfl, hca, _⟩ := rg_val ha
 obtain ⟨b, cb, rfl, hcb, _⟩ := rg_val hb
 obtain ⟨n, hnn⟩ : ∃ n, n = la.length := ⟨_, rfl⟩
 obtain ⟨m, hmm⟩ : ∃ n, n = lb.length := ⟨_, rfl⟩
 rw [← hnn] at hn hca ⊢
 rw [← hmm] at hm hcb ⊢
 have HN := Lib.hid hnn
 have HM := Lib.hid hmm
 obtain ⟨R, hR⟩ : ∃ R, R = decide (la = lb) := ⟨_, rfl⟩
 rw [← hR]
 have HRR := Lib.hid hR
 have hnc : (n : Int) ≤ ca := by omega
 have hmc : (m : Int) ≤ cb := by omega
 clear ha hb hca hcb hnn hmm hR
 by_cases hnm : n = m
 case neg =>
  have HNM := Lib.hid hnm
  have hd : ((n : Int) != (m : Int)) = true := by simp; omega
  clear hnm
  go_enter Tryz.func215, Tryz.ntmps215
  go_wp2
  go_ret
  refine ⟨ret_bool ?_, Mod.refl _ _⟩
  rw [HRR.out]
  symm
  apply decide_eq_false
  intro e
  exact HNM.out (by rw [HN.out, HM.out, e])
 case pos =>
  subst hnm
  go_enter Tryz.func215, Tryz.ntmps215
  go_wp2
  go_loopw [13] (fun s13 wr => ∃ k : Nat, k ≤ n ∧ s13 = .int .i64 k ∧ Mod (fun _ => False) w wr ∧ Hid (la.take k = lb.take k)) (fun s13 _ => n - (intOf s13).toNat)
  case atStart => exact ⟨0, Nat.zero_le _, rfl, Mod.refl _ _, rfl⟩
  case round =>
   obtain ⟨k, hk, rfl, hM, HJ⟩ := hrel
   have HMr := Lib.hid hM
   clear hM
   by_cases hkn : (k : Int) < n
   ·have hka : k < la.length := by have := HN.out; omega
    have hkb : k < lb.length := by have := HM.out; omega
    have hs : la[k]? = some la[k] := List.getElem?_eq_getElem hka
    have ht : lb[k]? = some lb[k] := List.getElem?_eq_getElem hkb
    generalize la[k] = s at hs
    generalize lb[k] = t at ht
    obtain ⟨ba, oa, cpa, hv, _, _, hcs⟩ := rg_addr HA.out (by rintro rfl; simp at hka)
    simp only [Value.slice.injEq] at hv
    obtain ⟨rfl, _, rfl⟩ := hv
    obtain ⟨bb, ob, cpb, hv, _, _, hct⟩ := rg_addr HB.out (by rintro rfl; simp at hkb)
    simp only [Value.slice.injEq] at hv
    obtain ⟨rfl, _, rfl⟩ := hv
    obtain ⟨g0, g1⟩ := hcs k s hs
    obtain ⟨h0, h1⟩ := hct k t ht
    have g0' := HMr.out.drew.cellAt g0 (fun h => h)
    have g1' := HMr.out.drew.cellAt g1 (fun h => h)
    have h0' := HMr.out.drew.cellAt h0 (fun h => h)
    have h1' := HMr.out.drew.cellAt h1 (fun h => h)
    have HS := Lib.hid hs
    have HT := Lib.hid ht
    clear g0 g1 h0 h1 hs ht hcs hct hka hkb
    obtain ⟨c, hc⟩ : ∃ c, c = !decide (s = t) := ⟨_, rfl⟩
    have HC := Lib.hid hc
    clear hc
    go_wp2_with fail
    refine wp_region_held_drew (S := fun X => X.cell? ⟨ba, oa + k * 2, none⟩ = some (.int .u64 (s.1 : Int)) ∧ X.cell? ⟨ba, oa + k * 2 + 1, none⟩ = some (.int .u64 (s.2 : Int)) ∧ X.cell? ⟨bb, ob + k * 2, none⟩ = some (.int .u64 (t.1 : Int)) ∧ X.cell? ⟨bb, ob + k * 2 + 1, none⟩ = some (.int .u64 (t.2 : Int))) (by kernel_rfl) ⟨g0', g1', h0', h1'⟩ (fun hS => ?_)
    refine wpAnyH_take (i := 0) (v := .slice (some ⟨ba, oa, none⟩) n ca) rfl (by kernel_rfl) (by kernel_rfl) (by kernel_rfl) (fun _ _ _ h => h) (Or.inl ⟨by rfl, fun X hX => ?_⟩) hS ?_
    ·go_simp
    refine wpAnyH_take (i := 1) (v := .int .i64 k) rfl (by kernel_rfl) (by kernel_rfl) (by kernel_rfl) (fun _ _ _ h => h) (Or.inl ⟨by rfl, fun X hX => ?_⟩) hS ?_
    ·go_simp
    refine wpAnyH_take (i := 2) (v := .pointer (some ⟨ba, oa + k * 2, none⟩)) rfl (by kernel_rfl) (by kernel_rfl) (by kernel_rfl) (fun _ _ _ h => h) (Or.inl ⟨by rfl, fun X hX => ?_⟩) hS ?_
    ·go_simp
    refine wpAnyH_take (i := 3) (v := .agg (rgA s)) rfl (by kernel_rfl) (by kernel_rfl) (by kernel_rfl) (fun _ _ _ h => h) (Or.inl ⟨by rfl, fun X hX => ?_⟩) hS ?_
    ·have x0 := hX.1; have x1 := hX.2.1; go_simp; rfl
    refine wpAnyH_take (i := 4) (v := .slice (some ⟨bb, ob, none⟩) n cb) rfl (by kernel_rfl) (by kernel_rfl) (by kernel_rfl) (fun _ _ _ h => h) (Or.inl ⟨by rfl, fun X hX => ?_⟩) hS ?_
    ·go_simp
    refine wpAnyH_take (i := 5) (v := .int .i64 k) rfl (by kernel_rfl) (by kernel_rfl) (by kernel_rfl) (fun _ _ _ h => h) (Or.inl ⟨by rfl, fun X hX => ?_⟩) hS ?_
    ·go_simp
    refine wpAnyH_take (i := 6) (v := .pointer (some ⟨bb, ob + k * 2, none⟩)) rfl (by kernel_rfl) (by kernel_rfl) (by kernel_rfl) (fun _ _ _ h => h) (Or.inl ⟨by rfl, fun X hX => ?_⟩) hS ?_
    ·go_simp
    refine wpAnyH_take (i := 7) (v := .agg (rgA t)) rfl (by kernel_rfl) (by kernel_rfl) (by kernel_rfl) (fun _ _ _ h => h) (Or.inl ⟨by rfl, fun X hX => ?_⟩) hS ?_
    ·have x0 := hX.2.2.1; have x1 := hX.2.2.2; go_simp; rfl
    refine wpAnyH_take (i := 8) (v := .bool c) rfl (by kernel_rfl) (by kernel_rfl) (by kernel_rfl) (fun _ _ _ h => h) (Or.inl ⟨by rfl, fun X hX => ?_⟩) hS ?_
    ·refine exec_eq (X := rgA s) (Y := rgA t) rfl ?_ ?_ guardRg (by rw [HC.out]; exact rg_neq X s t) <;> go_simp
    refine wpAnyH_done (by kernel_rfl) ?_ _
    go_simp
    have HMd := Lib.hid (HMr.out.drew)
    cases c
    ·have HE : Hid (s = t) := by have := HC.out; show s = t; simpa using this
     go_wp2_with fail
     go_roundw
     case rel => exact ⟨k + 1, by omega, by go_num, HMd.out, take_eq_step HJ.out HS.out HT.out HE.out⟩
     case measure => simp [intOf]; omega
    ·have HE : Hid (¬ s = t) := by have := HC.out; show ¬ s = t; simpa using this
     go_wp2_with fail
     go_ret
     refine ⟨ret_bool ?_, HMd.out⟩
     rw [HRR.out]
     symm
     apply decide_eq_false
     rintro rfl
     have h1 := HS.out
     rw [HT.out] at h1
     exact HE.out (Option.some.inj h1).symm
   ·have hkn' : k = n := by omega
    have e1 : la.take k = la := List.take_of_length_le (by have := HN.out; omega)
    have e2 : lb.take k = lb := List.take_of_length_le (by have := HM.out; omega)
    have HJ' := HJ.out
    rw [e1, e2] at HJ'
    have HJJ := Lib.hid HJ'
    clear e1 e2 HJ'
    go_wp2
    go_ret
    refine ⟨ret_bool ?_, HMr.out⟩
    rw [HRR.out, HJJ.out]
    simp
theorem part8 (w : World) (t : List UInt8) (i : Nat) (x : UInt8) (h : t[i]? = some x) : (part 5 (t.map bv).toArray i).run Tryz.prog w = .ok (bv x) w := by
 simp [part, isAgg, run_underlying Tryz.underlying5, h]
theorem items8 (w : World) (d : Nat) (t t' : List UInt8) : ∀ is : List Nat, (∀ i ∈ is, i < t.length ∧ i < t'.length) →
  (Op.eqItems (d + 1) 5 1 (t.map bv).toArray (t'.map bv).toArray is).run Tryz.prog w = .ok (is.all fun i => t[i]? == t'[i]?) w
 | [], _ => by simp [Op.eqItems]
 | i :: is, h => by
  obtain ⟨h1, h2⟩ := h i (by simp)
  have ih := items8 w d t t' is (fun j hj => h j (by simp [hj]))
  have e1 : t[i]? = some t[i] := List.getElem?_eq_getElem h1
  have e2 : t'[i]? = some t'[i] := List.getElem?_eq_getElem h2
  have p1 := part8 w t i _ e1
  have p2 := part8 w t' i _ e2
  have q : (Op.equalIn (d + 1) 5 (bv t[i]) (bv t'[i])).run Tryz.prog w = .ok (t[i] == t'[i]) w := by
   unfold bv
   rw [run_equalIn_int w d 5 .u8 .u8 _ _ Tryz.underlying5]
   congr 1
   rw [Bool.eq_iff_iff]; simp only [beq_iff_eq]; rw [← UInt8.toNat_inj]; omega
  simp only [Op.eqItems, Sem.run_bind, Nat.mul_one, p1, p2, q, Result.andThen_ok, List.all_cons, e1, e2]
  cases hb : (t[i] == t'[i])
  ·simp [hb]
  ·simp [hb, ih]
theorem eqTok (w : World) (d : Nat) (t t' : List UInt8) (h : t.length = 16) (h' : t'.length = 16) :
  (Op.equalIn (d + 2) 61 (.agg (t.map bv).toArray) (.agg (t'.map bv).toArray)).run Tryz.prog w = .ok (decide (t = t')) w := by
 obtain ⟨i0, hi, _⟩ := info_parts Tryz.info5
 rw [Go.run_equalIn_array w (d + 1) _ _ Tryz.underlying61 hi, show Program.cellsOf Tryz.prog 5 = 1 by kernel_rfl, items8 w d t t' _ (fun i hi => by simp at hi; omega)]
 congr 1
 rw [Bool.eq_iff_iff]
 simp only [List.all_eq_true, List.mem_range, beq_iff_eq, decide_eq_true_eq]
 constructor
 ·intro hh
  apply List.ext_getElem?
  intro i
  by_cases hi : i < 16
  ·exact hh i hi
  ·rw [List.getElem?_eq_none (by omega), List.getElem?_eq_none (by omega)]
 ·rintro rfl _ _; rfl
theorem sizeOfTk (w : World) : (sizeOf 61).run Tryz.prog w = .ok 16 w := by kernel_rfl
def hdL (f : Fr) : List Value := [.int .i64 f.k, .int .u64 (f.id : Int), .int .u64 (f.a : Int), .int .u64 (f.b : Int), .int .u64 (f.c : Int), .bool f.fl] ++ f.t.map bv
def hdC (f : Fr) : Array Value := (hdL f).toArray
def hdEq (f g : Fr) : Bool := decide (f.k = g.k) && (f.id == g.id && (f.a == g.a && (f.b == g.b && (f.c == g.c && (f.fl == g.fl && (decide (f.t = g.t) && true))))))
theorem sizeHd (f : Fr) (h : f.t.length = 16) : (Tryz.prog.info? 236).map (·.size) = some (hdC f).size := by rw [show (hdC f).size = 22 by simp [hdC, hdL, h]]; kernel_rfl
theorem hdC_one (f : Fr) : ∀ v ∈ (hdC f).toList, v.oneCell' = true := by
 intro v hv
 simp only [hdC, hdL, List.mem_append, List.mem_cons, List.not_mem_nil, or_false] at hv
 rcases hv with (rfl | rfl | rfl | rfl | rfl | rfl) | hv <;> try rfl
 exact bv_one _ _ hv
theorem hd_ext (f : Fr) (h : f.t.length = 16) : (hdC f).extract 6 22 = (f.t.map bv).toArray := by
 apply Array.toList_inj.1
 simp [hdC, hdL]
 exact List.take_of_length_le (by simp [h])
theorem hdT (w : World) (f : Fr) (h : f.t.length = 16) : (part 61 (hdC f) 6).run Tryz.prog w = .ok (.agg (f.t.map bv).toArray) w := by
 have e : (isAgg 61).run Tryz.prog w = .ok true w := by
  unfold isAgg
  rw [Sem.run_bind, run_underlying Tryz.underlying61 w]
  rfl
 simp only [part, Sem.run_bind, e, Result.andThen_ok, if_true, sizeOfTk w, Sem.run_pure, hd_ext f h]
theorem hdN (w : World) (f : Fr) (i : Nat) (n : Nat) (h : (hdC f)[i]? = some (.int .u64 (n : Int))) : (part 34 (hdC f) i).run Tryz.prog w = .ok (.int .u64 (n : Int)) w := by
 simp [part, isAgg, run_underlying Tryz.underlying34, h]
theorem hdK (w : World) (f : Fr) : (part 3 (hdC f) 0).run Tryz.prog w = .ok (.int .i64 f.k) w := by
 have h : (hdC f)[0]? = some (.int .i64 f.k) := rfl
 simp [part, isAgg, run_underlying Tryz.underlying3, h]
theorem hdB (w : World) (f : Fr) : (part 4 (hdC f) 5).run Tryz.prog w = .ok (.bool f.fl) w := by
 have h : (hdC f)[5]? = some (.bool f.fl) := rfl
 simp [part, isAgg, run_underlying Tryz.underlying4, h]
theorem fieldsHd : (Program.fieldsOf Tryz.prog 236).toList.map (fun f => (decide (f.name ≠ "_"), f.type, f.offset)) = [(true, 3, 0), (true, 34, 1), (true, 34, 2), (true, 34, 3), (true, 34, 4), (true, 4, 5), (true, 61, 6)] := by kernel_rfl
theorem guardHd : Program.eqGuardType Tryz.prog (Program.depth Tryz.prog) 236 = false := by kernel_rfl
theorem underHd : Program.underlying Tryz.prog 236 = some (.struct (Program.fieldsOf Tryz.prog 236)) := by kernel_rfl
theorem stoodHd : Program.stoodInHeld Tryz.prog 236 = false := by kernel_rfl
theorem seven {α : Type} {β : Type} {l : List α} {f : α → β} {a b c d e g h' : β} (h : l.map f = [a, b, c, d, e, g, h']) : ∃ x0 x1 x2 x3 x4 x5 x6, l = [x0, x1, x2, x3, x4, x5, x6] ∧ f x0 = a ∧ f x1 = b ∧ f x2 = c ∧ f x3 = d ∧ f x4 = e ∧ f x5 = g ∧ f x6 = h' := by
 match l, h with
 | [x0, x1, x2, x3, x4, x5, x6], h => simp at h; exact ⟨x0, x1, x2, x3, x4, x5, x6, rfl, h.1, h.2.1, h.2.2.1, h.2.2.2.1, h.2.2.2.2.1, h.2.2.2.2.2.1, h.2.2.2.2.2.2⟩
theorem eqKind (w : World) (d : Nat) (m n : Int) : (Op.equalIn (d + 1) 3 (.int .i64 m) (.int .i64 n)).run Tryz.prog w = .ok (decide (m = n)) w := by
 rw [run_equalIn_int w d 3 .i64 .i64 _ _ Tryz.underlying3]
 congr 1
theorem eqHd (w : World) (d : Nat) (f g : Fr) (hf : f.t.length = 16) (hg : g.t.length = 16) :
  (Op.equalIn (d + 3) 236 (.agg (hdC f)) (.agg (hdC g))).run Tryz.prog w = .ok (hdEq f g) w := by
 rw [run_equalIn_struct w (d + 2) 236 _ _ underHd stoodHd]
 obtain ⟨x0, x1, x2, x3, x4, x5, x6, e, k0, k1, k2, k3, k4, k5, k6⟩ := seven fieldsHd
 simp only [Prod.mk.injEq] at k0 k1 k2 k3 k4 k5 k6
 obtain ⟨n0, t0, o0⟩ := k0
 obtain ⟨n1, t1, o1⟩ := k1
 obtain ⟨n2, t2, o2⟩ := k2
 obtain ⟨n3, t3, o3⟩ := k3
 obtain ⟨n4, t4, o4⟩ := k4
 obtain ⟨n5, t5, o5⟩ := k5
 obtain ⟨n6, t6, o6⟩ := k6
 rw [e]
 have s6 := eqFields_cons w (d + 2) (hdC f) (hdC g) x6 [] _ _ _ n6 (by rw [t6, o6]; exact hdT w f hf) (by rw [t6, o6]; exact hdT w g hg) (by rw [t6]; exact eqTok w d f.t g.t hf hg) true (by simp [Op.eqFields])
 have s5 := eqFields_cons w (d + 2) (hdC f) (hdC g) x5 [x6] _ _ _ n5 (by rw [t5, o5]; exact hdB w f) (by rw [t5, o5]; exact hdB w g) (by rw [t5]; exact run_equalIn_bool w (d + 1) 4 f.fl g.fl Tryz.underlying4) _ s6
 have s4 := eqFields_cons w (d + 2) (hdC f) (hdC g) x4 _ _ _ _ n4 (by rw [t4, o4]; exact hdN w f 4 f.c rfl) (by rw [t4, o4]; exact hdN w g 4 g.c rfl) (by rw [t4]; exact eqInt w (d + 1) f.c g.c) _ s5
 have s3 := eqFields_cons w (d + 2) (hdC f) (hdC g) x3 _ _ _ _ n3 (by rw [t3, o3]; exact hdN w f 3 f.b rfl) (by rw [t3, o3]; exact hdN w g 3 g.b rfl) (by rw [t3]; exact eqInt w (d + 1) f.b g.b) _ s4
 have s2 := eqFields_cons w (d + 2) (hdC f) (hdC g) x2 _ _ _ _ n2 (by rw [t2, o2]; exact hdN w f 2 f.a rfl) (by rw [t2, o2]; exact hdN w g 2 g.a rfl) (by rw [t2]; exact eqInt w (d + 1) f.a g.a) _ s3
 have s1 := eqFields_cons w (d + 2) (hdC f) (hdC g) x1 _ _ _ _ n1 (by rw [t1, o1]; exact hdN w f 1 f.id rfl) (by rw [t1, o1]; exact hdN w g 1 g.id rfl) (by rw [t1]; exact eqInt w (d + 1) f.id g.id) _ s2
 have s0 := eqFields_cons w (d + 2) (hdC f) (hdC g) x0 _ _ _ _ n0 (by rw [t0, o0]; exact hdK w f) (by rw [t0, o0]; exact hdK w g) (by rw [t0]; exact eqKind w (d + 1) f.k g.k) _ s1
 rw [s0]
 rfl
theorem hd_eql (w : World) (f g : Fr) (hf : f.t.length = 16) (hg : g.t.length = 16) : (binOp .eql 236 (.agg (hdC f)) (.agg (hdC g))).run Tryz.prog w = .ok (.bool (hdEq f g)) w := by
 rw [run_eql_struct, show (10000 : Nat) = 9997 + 3 from rfl, eqHd w 9997 f g hf hg]
 rfl
theorem sameF_eq (f g : Fr) : sameF f g = (hdEq f g && decide (f.d = g.d) && decide (f.rs = g.rs)) := by
 obtain ⟨k, id, a, b, c, fl, d, rs, t⟩ := f
 obtain ⟨k', id', a', b', c', fl', d', rs', t'⟩ := g
 unfold sameF hdEq
 rw [Bool.eq_iff_iff]
 simp
 constructor
 ·rintro ⟨rfl, rfl, rfl, rfl, rfl, rfl, rfl, rfl, rfl⟩; simp
 ·rintro ⟨⟨⟨rfl, rfl, rfl, rfl, rfl, rfl, rfl⟩, rfl⟩, rfl⟩; simp
abbrev hdZ : Array Value := #[.int .i64 0, .int .u64 0, .int .u64 0, .int .u64 0, .int .u64 0, .bool false, .int .u8 0, .int .u8 0, .int .u8 0, .int .u8 0, .int .u8 0, .int .u8 0, .int .u8 0, .int .u8 0, .int .u8 0, .int .u8 0, .int .u8 0, .int .u8 0, .int .u8 0, .int .u8 0, .int .u8 0, .int .u8 0]
set_option maxRecDepth 10000 in
theorem head_any {w : World} {f : Fr} {vd vr : Value} (h16 : f.t.length = 16) : Calls Tryz.prog 213 #[frV f vd vr] w fun e w' => e = .returned (.agg (hdC f)) ∧ Mod (fun _ => False) w w' := by
 have HB := FrB.new w f vd vr h16
 have e0 : (frC f vd vr)[0]? = some (.int .i64 f.k) := rfl
 have e1 : (frC f vd vr)[1]? = some (.int .u64 (f.id : Int)) := rfl
 have e2 : (frC f vd vr)[2]? = some (.int .u64 (f.a : Int)) := rfl
 have e3 : (frC f vd vr)[3]? = some (.int .u64 (f.b : Int)) := rfl
 have e4 : (frC f vd vr)[4]? = some (.int .u64 (f.c : Int)) := rfl
 have e5 : (frC f vd vr)[5]? = some (.bool f.fl) := rfl
 have LT : Hid (∀ Z, (Instr.loadAt 61 (.pointer (some ⟨w.heap.size, 8, none⟩))).run Tryz.prog ((w.alloc (.cells (frC f vd vr) 91)).alloc (.cells Z 236)) = .ok (.agg (f.t.map bv).toArray) ((w.alloc (.cells (frC f vd vr) 91)).alloc (.cells Z 236))) := fun Z => (HB.kept ((Mod.refl (fun _ => False) _).alloc _)).loadTok
 have hbu : Tryz.prog.built 236 [(0, .int .i64 f.k), (1, .int .u64 (f.id : Int)), (2, .int .u64 (f.a : Int)), (3, .int .u64 (f.b : Int)), (4, .int .u64 (f.c : Int)), (5, .bool f.fl), (6, .agg (f.t.map bv).toArray)] = some (hdC f) := by
  unfold hdC hdL
  obtain ⟨x0, x1, x2, x3, x4, x5, x6, x7, x8, x9, xa, xb, xc, xd, xe, xf, ht⟩ := list16 _ h16
  simp only [ht]
  kernel_rfl
 have HBU := Lib.hid hbu
 have HONE := Lib.hid (hdC_one f)
 have HSZ := Lib.hid (sizeHd f h16)
 have HSS : Hid (hdZ.size = (hdC f).size) := by show 22 = _; simp [hdC, hdL, h16]
 unfold frV
 clear HB hbu h16
 generalize hdC f = G at *
 generalize frC f vd vr = C at *
 generalize (f.t.map bv).toArray = K at *
 go_enter Tryz.func213, Tryz.ntmps213
 go_wp2_with (first
  | ((with_reducible refine wpList_load_v 61 (.tmp 15) ?_ ?_ (.pointer (some ⟨w.heap.size, 8, none⟩)) (.agg K) ?_ (LT.out _) ?_); (iterate 3 exact rfl))
  | ((with_reducible refine wpList_build_c ?_ 236 [(0, .tmp 4), (1, .tmp 6), (2, .tmp 8), (3, .tmp 10), (4, .tmp 12), (5, .tmp 14), (6, .tmp 16)] ?_ [(0, .int .i64 f.k), (1, .int .u64 (f.id : Int)), (2, .int .u64 (f.a : Int)), (3, .int .u64 (f.b : Int)), (4, .int .u64 (f.c : Int)), (5, .bool f.fl), (6, .agg K)] ?_ G HBU.out ?_); (iterate 3 exact rfl))
  | ((with_reducible refine wpList_store_blk ?_ 236 (.tmp 2) (.tmp 17) ?_ (w.heap.size + 1) ?_ hdZ G ?_ 236 (new2 _ _ _ _) HSZ.out HSS.out HONE.out ?_); (iterate 4 exact rfl); intro w1 hB hM)
  | fail)
 have hl := blk_loadVar (P := Tryz.prog) hB Tryz.underlying236 rfl HSZ.out
 refine bodyPost_ret (v := .agg G) ?_ rfl ⟨rfl, (((Mod.refl (fun _ => False) w).alloc _).alloc _).trans' hM (fun i hi e => by omega)⟩
 exact results_cell Tryz.results213 _ rfl hl
theorem exec_load' {P : Program} {w : World} {a : Act} {op : Oper} {ty : TypeId} {x : Operand} (ho : op.op = .load ty x) {p v : Value} (hx : a.eval x = p) (hl : (Instr.loadAt ty p).run P w = .ok v w) : (execOp a.eval op).run P w = .ok (.value v) w := by
 unfold execOp
 simp only [ho, hx, Sem.run_bind, hl, Result.andThen_ok, Sem.run_pure]
theorem blk_loadAt {w : World} {b : Nat} {f : Fr} {vd vr : Value} (h : FrB w b f vd vr) : (Instr.loadAt 91 (.pointer (some ⟨b, 0, none⟩))).run Tryz.prog w = .ok (frV f vd vr) w :=
 run_loadAt_mid w b 0 91 (frC f vd vr).toList _ h.blk.whole Tryz.underlying91 rfl (sizeFr f vd vr h.len)
theorem same_hd {f g : Fr} (h : hdEq f g = false) : sameF f g = false := by rw [sameF_eq, h]; rfl
theorem same_d {f g : Fr} (h : decide (f.d = g.d) = false) : sameF f g = false := by rw [sameF_eq, h]; simp
theorem same_all {f g : Fr} (h1 : hdEq f g = true) (h2 : decide (f.d = g.d) = true) : sameF f g = decide (f.rs = g.rs) := by rw [sameF_eq, h1, h2]; simp
set_option maxHeartbeats 8000000 in
set_option maxRecDepth 10000 in
theorem same_no {w : World} {f g : Fr} {da ea ra sa : Option Addr} {dc ec rc sc : Nat} (hf : FrV w f (.slice da f.d.length dc) (.slice ra f.rs.length rc)) (hg : FrV w g (.slice ea g.d.length ec) (.slice sa g.rs.length sc)) (hn : (f.rs.length : Int) ≤ 100000) (hm : (g.rs.length : Int) ≤ 100000) (h1 : hdEq f g = false) :
  Calls Tryz.prog 140 #[frV f (.slice da f.d.length dc) (.slice ra f.rs.length rc), frV g (.slice ea g.d.length ec) (.slice sa g.rs.length sc)] w fun e w' => e = .returned (.bool (sameF f g)) ∧ Mod (fun _ => False) w w' := by
 have H1 := Lib.hid h1
 clear h1
 have HTf := Lib.hid hf.t
 have HTg := Lib.hid hg.t
 have HRE := Lib.hid (fun X (h : Mod (fun _ => False) w X) => rgeq_any (hf.r.kept h) (hg.r.kept h) hn hm)
 have HDE := Lib.hid (fun X (h : Mod (fun _ => False) w X) => eq_any (byts_kept hf.d h) (byts_kept hg.d h))
 obtain ⟨vd, hvd⟩ : ∃ v, v = Value.slice da f.d.length dc := ⟨_, rfl⟩
 obtain ⟨vr, hvr⟩ : ∃ v, v = Value.slice ra f.rs.length rc := ⟨_, rfl⟩
 obtain ⟨ud, hud⟩ : ∃ v, v = Value.slice ea g.d.length ec := ⟨_, rfl⟩
 obtain ⟨ur, hur⟩ : ∃ v, v = Value.slice sa g.rs.length sc := ⟨_, rfl⟩
 rw [← hvd, ← hvr] at hf ⊢
 rw [← hud, ← hur] at hg ⊢
 rw [← hvd, ← hud] at HDE
 rw [← hvr, ← hur] at HRE
 have HS0 : Hid (FrB ((w.alloc (.cells (frC f vd vr) 91)).alloc (.cells (frC g ud ur) 91)).drew w.heap.size f vd vr ∧ FrB ((w.alloc (.cells (frC f vd vr) 91)).alloc (.cells (frC g ud ur) 91)).drew (w.heap.size + 1) g ud ur ∧ Mod (fun _ => False) w ((w.alloc (.cells (frC f vd vr) 91)).alloc (.cells (frC g ud ur) 91)).drew) :=
  ⟨(FrB.new w f vd vr hf.t).kept ((Mod.refl _ _).alloc _).drew, FrB.kept ⟨new2 _ _ _ _, hg.t⟩ (Mod.refl _ _).drew, (((Mod.refl _ w).alloc _).alloc _).drew⟩
 clear hf hg hn hm hvd hvr hud hur
 unfold frV
 go_enter Tryz.func140, Tryz.ntmps140
 go_wp2_with fail
 refine wp_region_held_drew (S := fun X => FrB X w.heap.size f vd vr ∧ FrB X (w.heap.size + 1) g ud ur ∧ Mod (fun _ => False) w X) (by kernel_rfl) HS0.out (fun hS => ?_)
 refine tk 0 (frV f vd vr) (some 5) rfl rfl (by kernel_rfl) (fun _ _ _ => id) (Or.inl ⟨by rfl, fun X hX => ?_⟩) hS ?_
 ·exact exec_load' rfl (p := .pointer (some ⟨w.heap.size, 0, none⟩)) (by rfl) (blk_loadAt hX.1)
 (try go_frame); refine tk 2 (frV g ud ur) (some 7) rfl rfl (by kernel_rfl) (fun _ _ _ => id) (Or.inl ⟨by rfl, fun X hX => ?_⟩) hS ?_
 ·exact exec_load' rfl (p := .pointer (some ⟨w.heap.size + 1, 0, none⟩)) (by rfl) (blk_loadAt hX.2.1)
 (try go_frame); refine wpAnyH_ready (rs := [1]) (by kernel_rfl) (by simp) ?_
 refine arH rfl fun K hK => ?_
 go_simp
 refine (head_any (f := f) HTf.out).mono ?_
 rintro e X1 ⟨rfl, hk1⟩
 refine hK.out _ _ ⟨hS.1.kept hk1, hS.2.1.kept hk1, hS.2.2.trans hk1⟩ (fun hS => ?_)
 clear hK K
 refine wpAnyH_ready (rs := [3]) (by kernel_rfl) (by simp) ?_
 refine arH rfl fun K hK => ?_
 go_simp
 refine (head_any (f := g) HTg.out).mono ?_
 rintro e X3 ⟨rfl, hk3⟩
 refine hK.out _ _ ⟨hS.1.kept hk3, hS.2.1.kept hk3, hS.2.2.trans hk3⟩ (fun hS => ?_)
 clear hK K
 refine tk 4 (.bool false) (some 9) rfl rfl (by kernel_rfl) (fun _ _ _ => id) (Or.inl ⟨by rfl, fun X hX => ?_⟩) hS ?_
 ·refine exec_eq (X := hdC f) (Y := hdC g) rfl ?_ ?_ guardHd (by rw [← H1.out]; exact hd_eql X f g HTf.out HTg.out) <;> go_simp
 (try go_frame); refine tk 5 (.bool false) (some 10) rfl rfl (by kernel_rfl) (fun _ _ _ => id) (Or.inl ⟨by rfl, fun X hX => ?_⟩) hS ?_
 ·go_simp
 (try go_frame); refine tk 6 undef (some 11) rfl rfl (by kernel_rfl) (fun _ _ _ => id) (Or.inr ⟨by rfl, rfl⟩) hS ?_
 (try go_frame); refine tk 7 undef (some 12) rfl rfl (by kernel_rfl) (fun _ _ _ => id) (Or.inr ⟨by rfl, rfl⟩) hS ?_
 (try go_frame); refine tk 8 undef (some 13) rfl rfl (by kernel_rfl) (fun _ _ _ => id) (Or.inr ⟨by rfl, rfl⟩) hS ?_
 (try go_frame); refine tk 9 undef (some 14) rfl rfl (by kernel_rfl) (fun _ _ _ => id) (Or.inr ⟨by rfl, rfl⟩) hS ?_
 (try go_frame); refine tk 10 undef (some 15) rfl rfl (by kernel_rfl) (fun _ _ _ => id) (Or.inr ⟨by rfl, rfl⟩) hS ?_
 (try go_frame); refine tk 11 (.bool false) (some 16) rfl rfl (by kernel_rfl) (fun _ _ _ => id) (Or.inl ⟨by rfl, fun X hX => ?_⟩) hS ?_
 ·go_simp
 (try go_frame); refine tk 12 (.bool false) (some 17) rfl rfl (by kernel_rfl) (fun _ _ _ => id) (Or.inl ⟨by rfl, fun X hX => ?_⟩) hS ?_
 ·go_simp
 (try go_frame); refine tk 13 undef (some 18) rfl rfl (by kernel_rfl) (fun _ _ _ => id) (Or.inr ⟨by rfl, rfl⟩) hS ?_
 (try go_frame); refine tk 14 undef (some 19) rfl rfl (by kernel_rfl) (fun _ _ _ => id) (Or.inr ⟨by rfl, rfl⟩) hS ?_
 (try go_frame); refine tk 15 undef (some 20) rfl rfl (by kernel_rfl) (fun _ _ _ => id) (Or.inr ⟨by rfl, rfl⟩) hS ?_
 (try go_frame); refine tk 16 undef (some 21) rfl rfl (by kernel_rfl) (fun _ _ _ => id) (Or.inr ⟨by rfl, rfl⟩) hS ?_
 (try go_frame); refine tk 17 undef (some 22) rfl rfl (by kernel_rfl) (fun _ _ _ => id) (Or.inr ⟨by rfl, rfl⟩) hS ?_
 (try go_frame); refine tk 18 (.bool false) (some 23) rfl rfl (by kernel_rfl) (fun _ _ _ => id) (Or.inl ⟨by rfl, fun X hX => ?_⟩) hS ?_
 ·go_simp
 (try go_frame); refine wpAnyH_ready (rs := [19]) (by kernel_rfl) (by simp) ?_
 refine arH rfl fun K hK => ?_
 go_simp
 refine hK.out _ _ hS (fun hS => ?_)
 clear hK K
 refine wpAnyH_done (by kernel_rfl) ?_ _
 have HM := Lib.hid hS.2.2
 clear hS
 go_wp2_with fail
 go_ret
 refine ⟨ret_bool ?_, HM.out⟩
 exact (same_hd H1.out).symm
set_option maxHeartbeats 8000000 in
set_option maxRecDepth 10000 in
theorem same_nod {w : World} {f g : Fr} {da ea ra sa : Option Addr} {dc ec rc sc : Nat} (hf : FrV w f (.slice da f.d.length dc) (.slice ra f.rs.length rc)) (hg : FrV w g (.slice ea g.d.length ec) (.slice sa g.rs.length sc)) (hn : (f.rs.length : Int) ≤ 100000) (hm : (g.rs.length : Int) ≤ 100000) (h1 : hdEq f g = true) (h2 : decide (f.d = g.d) = false) :
  Calls Tryz.prog 140 #[frV f (.slice da f.d.length dc) (.slice ra f.rs.length rc), frV g (.slice ea g.d.length ec) (.slice sa g.rs.length sc)] w fun e w' => e = .returned (.bool (sameF f g)) ∧ Mod (fun _ => False) w w' := by
 have H1 := Lib.hid h1
 have H2 := Lib.hid h2
 clear h1 h2
 have HTf := Lib.hid hf.t
 have HTg := Lib.hid hg.t
 have HRE := Lib.hid (fun X (h : Mod (fun _ => False) w X) => rgeq_any (hf.r.kept h) (hg.r.kept h) hn hm)
 have HDE := Lib.hid (fun X (h : Mod (fun _ => False) w X) => eq_any (byts_kept hf.d h) (byts_kept hg.d h))
 obtain ⟨vd, hvd⟩ : ∃ v, v = Value.slice da f.d.length dc := ⟨_, rfl⟩
 obtain ⟨vr, hvr⟩ : ∃ v, v = Value.slice ra f.rs.length rc := ⟨_, rfl⟩
 obtain ⟨ud, hud⟩ : ∃ v, v = Value.slice ea g.d.length ec := ⟨_, rfl⟩
 obtain ⟨ur, hur⟩ : ∃ v, v = Value.slice sa g.rs.length sc := ⟨_, rfl⟩
 rw [← hvd, ← hvr] at hf ⊢
 rw [← hud, ← hur] at hg ⊢
 rw [← hvd, ← hud] at HDE
 rw [← hvr, ← hur] at HRE
 have HS0 : Hid (FrB ((w.alloc (.cells (frC f vd vr) 91)).alloc (.cells (frC g ud ur) 91)).drew w.heap.size f vd vr ∧ FrB ((w.alloc (.cells (frC f vd vr) 91)).alloc (.cells (frC g ud ur) 91)).drew (w.heap.size + 1) g ud ur ∧ Mod (fun _ => False) w ((w.alloc (.cells (frC f vd vr) 91)).alloc (.cells (frC g ud ur) 91)).drew) :=
  ⟨(FrB.new w f vd vr hf.t).kept ((Mod.refl _ _).alloc _).drew, FrB.kept ⟨new2 _ _ _ _, hg.t⟩ (Mod.refl _ _).drew, (((Mod.refl _ w).alloc _).alloc _).drew⟩
 clear hf hg hn hm hvd hvr hud hur
 unfold frV
 go_enter Tryz.func140, Tryz.ntmps140
 go_wp2_with fail
 refine wp_region_held_drew (S := fun X => FrB X w.heap.size f vd vr ∧ FrB X (w.heap.size + 1) g ud ur ∧ Mod (fun _ => False) w X) (by kernel_rfl) HS0.out (fun hS => ?_)
 refine tk 0 (frV f vd vr) (some 5) rfl rfl (by kernel_rfl) (fun _ _ _ => id) (Or.inl ⟨by rfl, fun X hX => ?_⟩) hS ?_
 ·exact exec_load' rfl (p := .pointer (some ⟨w.heap.size, 0, none⟩)) (by rfl) (blk_loadAt hX.1)
 (try go_frame); refine tk 2 (frV g ud ur) (some 7) rfl rfl (by kernel_rfl) (fun _ _ _ => id) (Or.inl ⟨by rfl, fun X hX => ?_⟩) hS ?_
 ·exact exec_load' rfl (p := .pointer (some ⟨w.heap.size + 1, 0, none⟩)) (by rfl) (blk_loadAt hX.2.1)
 (try go_frame); refine wpAnyH_ready (rs := [1]) (by kernel_rfl) (by simp) ?_
 refine arH rfl fun K hK => ?_
 go_simp
 refine (head_any (f := f) HTf.out).mono ?_
 rintro e X1 ⟨rfl, hk1⟩
 refine hK.out _ _ ⟨hS.1.kept hk1, hS.2.1.kept hk1, hS.2.2.trans hk1⟩ (fun hS => ?_)
 clear hK K
 refine wpAnyH_ready (rs := [3]) (by kernel_rfl) (by simp) ?_
 refine arH rfl fun K hK => ?_
 go_simp
 refine (head_any (f := g) HTg.out).mono ?_
 rintro e X3 ⟨rfl, hk3⟩
 refine hK.out _ _ ⟨hS.1.kept hk3, hS.2.1.kept hk3, hS.2.2.trans hk3⟩ (fun hS => ?_)
 clear hK K
 refine tk 4 (.bool true) (some 9) rfl rfl (by kernel_rfl) (fun _ _ _ => id) (Or.inl ⟨by rfl, fun X hX => ?_⟩) hS ?_
 ·refine exec_eq (X := hdC f) (Y := hdC g) rfl ?_ ?_ guardHd (by rw [← H1.out]; exact hd_eql X f g HTf.out HTg.out) <;> go_simp
 (try go_frame); refine tk 5 (.bool true) (some 10) rfl rfl (by kernel_rfl) (fun _ _ _ => id) (Or.inl ⟨by rfl, fun X hX => ?_⟩) hS ?_
 ·go_simp
 (try go_frame); refine tk 6 (.pointer (some ⟨w.heap.size, 6, none⟩)) (some 11) rfl rfl (by kernel_rfl) (fun _ _ _ => id) (Or.inl ⟨by rfl, fun X hX => ?_⟩) hS ?_
 ·go_simp
 (try go_frame); refine tk 7 vd (some 12) rfl rfl (by kernel_rfl) (fun _ _ _ => id) (Or.inl ⟨by rfl, fun X hX => ?_⟩) hS ?_
 ·have := hX.1.cells.2.2.2.2.2.2.1; go_simp
 (try go_frame); refine tk 8 (.pointer (some ⟨w.heap.size + 1, 6, none⟩)) (some 13) rfl rfl (by kernel_rfl) (fun _ _ _ => id) (Or.inl ⟨by rfl, fun X hX => ?_⟩) hS ?_
 ·go_simp
 (try go_frame); refine tk 9 ud (some 14) rfl rfl (by kernel_rfl) (fun _ _ _ => id) (Or.inl ⟨by rfl, fun X hX => ?_⟩) hS ?_
 ·have := hX.2.1.cells.2.2.2.2.2.2.1; go_simp
 (try go_frame); refine wpAnyH_ready (rs := [10]) (by kernel_rfl) (by simp) ?_
 refine arH rfl fun K hK => ?_
 go_simp
 refine (HDE.out _ hS.2.2).mono ?_
 rintro e X5 ⟨rfl, rfl⟩
 rw [H2.out]
 refine hK.out _ _ hS (fun hS => ?_)
 clear hK K
 refine tk 11 (.bool false) (some 16) rfl rfl (by kernel_rfl) (fun _ _ _ => id) (Or.inl ⟨by rfl, fun X hX => ?_⟩) hS ?_
 ·go_simp
 (try go_frame); refine tk 12 (.bool false) (some 17) rfl rfl (by kernel_rfl) (fun _ _ _ => id) (Or.inl ⟨by rfl, fun X hX => ?_⟩) hS ?_
 ·go_simp
 (try go_frame); refine tk 13 undef (some 18) rfl rfl (by kernel_rfl) (fun _ _ _ => id) (Or.inr ⟨by rfl, rfl⟩) hS ?_
 (try go_frame); refine tk 14 undef (some 19) rfl rfl (by kernel_rfl) (fun _ _ _ => id) (Or.inr ⟨by rfl, rfl⟩) hS ?_
 (try go_frame); refine tk 15 undef (some 20) rfl rfl (by kernel_rfl) (fun _ _ _ => id) (Or.inr ⟨by rfl, rfl⟩) hS ?_
 (try go_frame); refine tk 16 undef (some 21) rfl rfl (by kernel_rfl) (fun _ _ _ => id) (Or.inr ⟨by rfl, rfl⟩) hS ?_
 (try go_frame); refine tk 17 undef (some 22) rfl rfl (by kernel_rfl) (fun _ _ _ => id) (Or.inr ⟨by rfl, rfl⟩) hS ?_
 (try go_frame); refine tk 18 (.bool false) (some 23) rfl rfl (by kernel_rfl) (fun _ _ _ => id) (Or.inl ⟨by rfl, fun X hX => ?_⟩) hS ?_
 ·go_simp
 (try go_frame); refine wpAnyH_ready (rs := [19]) (by kernel_rfl) (by simp) ?_
 refine arH rfl fun K hK => ?_
 go_simp
 refine hK.out _ _ hS (fun hS => ?_)
 clear hK K
 refine wpAnyH_done (by kernel_rfl) ?_ _
 have HM := Lib.hid hS.2.2
 clear hS
 go_wp2_with fail
 go_ret
 refine ⟨ret_bool ?_, HM.out⟩
 exact (same_d H2.out).symm
set_option maxHeartbeats 8000000 in
set_option maxRecDepth 10000 in
theorem same_yes {w : World} {f g : Fr} {da ea ra sa : Option Addr} {dc ec rc sc : Nat} (hf : FrV w f (.slice da f.d.length dc) (.slice ra f.rs.length rc)) (hg : FrV w g (.slice ea g.d.length ec) (.slice sa g.rs.length sc)) (hn : (f.rs.length : Int) ≤ 100000) (hm : (g.rs.length : Int) ≤ 100000) (h1 : hdEq f g = true) (h2 : decide (f.d = g.d) = true) :
  Calls Tryz.prog 140 #[frV f (.slice da f.d.length dc) (.slice ra f.rs.length rc), frV g (.slice ea g.d.length ec) (.slice sa g.rs.length sc)] w fun e w' => e = .returned (.bool (sameF f g)) ∧ Mod (fun _ => False) w w' := by
 have H1 := Lib.hid h1
 have H2 := Lib.hid h2
 clear h1 h2
 have HTf := Lib.hid hf.t
 have HTg := Lib.hid hg.t
 have HRE := Lib.hid (fun X (h : Mod (fun _ => False) w X) => rgeq_any (hf.r.kept h) (hg.r.kept h) hn hm)
 have HDE := Lib.hid (fun X (h : Mod (fun _ => False) w X) => eq_any (byts_kept hf.d h) (byts_kept hg.d h))
 obtain ⟨vd, hvd⟩ : ∃ v, v = Value.slice da f.d.length dc := ⟨_, rfl⟩
 obtain ⟨vr, hvr⟩ : ∃ v, v = Value.slice ra f.rs.length rc := ⟨_, rfl⟩
 obtain ⟨ud, hud⟩ : ∃ v, v = Value.slice ea g.d.length ec := ⟨_, rfl⟩
 obtain ⟨ur, hur⟩ : ∃ v, v = Value.slice sa g.rs.length sc := ⟨_, rfl⟩
 rw [← hvd, ← hvr] at hf ⊢
 rw [← hud, ← hur] at hg ⊢
 rw [← hvd, ← hud] at HDE
 rw [← hvr, ← hur] at HRE
 have HS0 : Hid (FrB ((w.alloc (.cells (frC f vd vr) 91)).alloc (.cells (frC g ud ur) 91)).drew w.heap.size f vd vr ∧ FrB ((w.alloc (.cells (frC f vd vr) 91)).alloc (.cells (frC g ud ur) 91)).drew (w.heap.size + 1) g ud ur ∧ Mod (fun _ => False) w ((w.alloc (.cells (frC f vd vr) 91)).alloc (.cells (frC g ud ur) 91)).drew) :=
  ⟨(FrB.new w f vd vr hf.t).kept ((Mod.refl _ _).alloc _).drew, FrB.kept ⟨new2 _ _ _ _, hg.t⟩ (Mod.refl _ _).drew, (((Mod.refl _ w).alloc _).alloc _).drew⟩
 clear hf hg hn hm hvd hvr hud hur
 unfold frV
 go_enter Tryz.func140, Tryz.ntmps140
 go_wp2_with fail
 refine wp_region_held_drew (S := fun X => FrB X w.heap.size f vd vr ∧ FrB X (w.heap.size + 1) g ud ur ∧ Mod (fun _ => False) w X) (by kernel_rfl) HS0.out (fun hS => ?_)
 refine tk 0 (frV f vd vr) (some 5) rfl rfl (by kernel_rfl) (fun _ _ _ => id) (Or.inl ⟨by rfl, fun X hX => ?_⟩) hS ?_
 ·exact exec_load' rfl (p := .pointer (some ⟨w.heap.size, 0, none⟩)) (by rfl) (blk_loadAt hX.1)
 (try go_frame); refine tk 2 (frV g ud ur) (some 7) rfl rfl (by kernel_rfl) (fun _ _ _ => id) (Or.inl ⟨by rfl, fun X hX => ?_⟩) hS ?_
 ·exact exec_load' rfl (p := .pointer (some ⟨w.heap.size + 1, 0, none⟩)) (by rfl) (blk_loadAt hX.2.1)
 (try go_frame); refine wpAnyH_ready (rs := [1]) (by kernel_rfl) (by simp) ?_
 refine arH rfl fun K hK => ?_
 go_simp
 refine (head_any (f := f) HTf.out).mono ?_
 rintro e X1 ⟨rfl, hk1⟩
 refine hK.out _ _ ⟨hS.1.kept hk1, hS.2.1.kept hk1, hS.2.2.trans hk1⟩ (fun hS => ?_)
 clear hK K
 refine wpAnyH_ready (rs := [3]) (by kernel_rfl) (by simp) ?_
 refine arH rfl fun K hK => ?_
 go_simp
 refine (head_any (f := g) HTg.out).mono ?_
 rintro e X3 ⟨rfl, hk3⟩
 refine hK.out _ _ ⟨hS.1.kept hk3, hS.2.1.kept hk3, hS.2.2.trans hk3⟩ (fun hS => ?_)
 clear hK K
 refine tk 4 (.bool true) (some 9) rfl rfl (by kernel_rfl) (fun _ _ _ => id) (Or.inl ⟨by rfl, fun X hX => ?_⟩) hS ?_
 ·refine exec_eq (X := hdC f) (Y := hdC g) rfl ?_ ?_ guardHd (by rw [← H1.out]; exact hd_eql X f g HTf.out HTg.out) <;> go_simp
 (try go_frame); refine tk 5 (.bool true) (some 10) rfl rfl (by kernel_rfl) (fun _ _ _ => id) (Or.inl ⟨by rfl, fun X hX => ?_⟩) hS ?_
 ·go_simp
 (try go_frame); refine tk 6 (.pointer (some ⟨w.heap.size, 6, none⟩)) (some 11) rfl rfl (by kernel_rfl) (fun _ _ _ => id) (Or.inl ⟨by rfl, fun X hX => ?_⟩) hS ?_
 ·go_simp
 (try go_frame); refine tk 7 vd (some 12) rfl rfl (by kernel_rfl) (fun _ _ _ => id) (Or.inl ⟨by rfl, fun X hX => ?_⟩) hS ?_
 ·have := hX.1.cells.2.2.2.2.2.2.1; go_simp
 (try go_frame); refine tk 8 (.pointer (some ⟨w.heap.size + 1, 6, none⟩)) (some 13) rfl rfl (by kernel_rfl) (fun _ _ _ => id) (Or.inl ⟨by rfl, fun X hX => ?_⟩) hS ?_
 ·go_simp
 (try go_frame); refine tk 9 ud (some 14) rfl rfl (by kernel_rfl) (fun _ _ _ => id) (Or.inl ⟨by rfl, fun X hX => ?_⟩) hS ?_
 ·have := hX.2.1.cells.2.2.2.2.2.2.1; go_simp
 (try go_frame); refine wpAnyH_ready (rs := [10]) (by kernel_rfl) (by simp) ?_
 refine arH rfl fun K hK => ?_
 go_simp
 refine (HDE.out _ hS.2.2).mono ?_
 rintro e X5 ⟨rfl, rfl⟩
 rw [H2.out]
 refine hK.out _ _ hS (fun hS => ?_)
 clear hK K
 refine tk 11 (.bool true) (some 16) rfl rfl (by kernel_rfl) (fun _ _ _ => id) (Or.inl ⟨by rfl, fun X hX => ?_⟩) hS ?_
 ·go_simp
 (try go_frame); refine tk 12 (.bool true) (some 17) rfl rfl (by kernel_rfl) (fun _ _ _ => id) (Or.inl ⟨by rfl, fun X hX => ?_⟩) hS ?_
 ·go_simp
 (try go_frame); refine tk 13 (.pointer (some ⟨w.heap.size, 7, none⟩)) (some 18) rfl rfl (by kernel_rfl) (fun _ _ _ => id) (Or.inl ⟨by rfl, fun X hX => ?_⟩) hS ?_
 ·go_simp
 (try go_frame); refine tk 14 vr (some 19) rfl rfl (by kernel_rfl) (fun _ _ _ => id) (Or.inl ⟨by rfl, fun X hX => ?_⟩) hS ?_
 ·have := hX.1.cells.2.2.2.2.2.2.2; go_simp
 (try go_frame); refine tk 15 (.pointer (some ⟨w.heap.size + 1, 7, none⟩)) (some 20) rfl rfl (by kernel_rfl) (fun _ _ _ => id) (Or.inl ⟨by rfl, fun X hX => ?_⟩) hS ?_
 ·go_simp
 (try go_frame); refine tk 16 ur (some 21) rfl rfl (by kernel_rfl) (fun _ _ _ => id) (Or.inl ⟨by rfl, fun X hX => ?_⟩) hS ?_
 ·have := hX.2.1.cells.2.2.2.2.2.2.2; go_simp
 (try go_frame); refine wpAnyH_ready (rs := [17]) (by kernel_rfl) (by simp) ?_
 refine arH rfl fun K hK => ?_
 go_simp
 refine (HRE.out _ hS.2.2).mono ?_
 rintro e X6 ⟨rfl, hk6⟩
 refine hK.out _ _ ⟨hS.1.kept hk6, hS.2.1.kept hk6, hS.2.2.trans hk6⟩ (fun hS => ?_)
 clear hK K
 refine tk 18 (.bool (decide (f.rs = g.rs))) (some 23) rfl rfl (by kernel_rfl) (fun _ _ _ => id) (Or.inl ⟨by rfl, fun X hX => ?_⟩) hS ?_
 ·go_simp
 (try go_frame); refine wpAnyH_ready (rs := [19]) (by kernel_rfl) (by simp) ?_
 refine arH rfl fun K hK => ?_
 go_simp
 refine hK.out _ _ hS (fun hS => ?_)
 clear hK K
 refine wpAnyH_done (by kernel_rfl) ?_ _
 have HM := Lib.hid hS.2.2
 clear hS
 go_wp2_with fail
 go_ret
 refine ⟨ret_bool ?_, HM.out⟩
 exact (same_all H1.out H2.out).symm
theorem same_fr {w : World} {f g : Fr} {vd vr ud ur : Value} (hf : FrV w f vd vr) (hg : FrV w g ud ur) (hn : (f.rs.length : Int) ≤ 100000) (hm : (g.rs.length : Int) ≤ 100000) :
  Calls Tryz.prog 140 #[frV f vd vr, frV g ud ur] w fun e w' => e = .returned (.bool (sameF f g)) ∧ Mod (fun _ => False) w w' := by
 obtain ⟨da, dc, rfl, _⟩ := byts_val hf.d
 obtain ⟨ra, rc, rfl, _⟩ := rg_val hf.r
 obtain ⟨ea, ec, rfl, _⟩ := byts_val hg.d
 obtain ⟨sa, sc, rfl, _⟩ := rg_val hg.r
 cases h1 : hdEq f g
 ·exact same_no hf hg hn hm h1
 ·cases h2 : decide (f.d = g.d)
  ·exact same_nod hf hg hn hm h1 h2
  ·exact same_yes hf hg hn hm h1 h2
end Go.Proofs.YtahgidkpjmecdaaGreatDoor
set_option maxRecDepth 100000
namespace Go.Proofs.YtahgidkpjmecdaaGreatDoor
open Go.RowKit Go.Maps
def anyElem (v : Value) : Option (DataW Value × List MemPlace) := some (.held v, [])
theorem lawInt : Keyed Tryz.prog 3 := int_keyed Tryz.underlying3
def okKey (z : Int) : Prop := (Lit.int .i64 z).wf = true
theorem okKey_key {z : Int} (h : okKey z) : keyOf Tryz.prog 3 (.int .i64 z) = some (.int .i64 z) := keyOf_int_mk Tryz.underlying3 h
def VMap (w : World) (mb n : Nat) (f : Int → Option Value) : Prop :=
 ∃ D : DataW Value, w.ownsMap Tryz.prog 3 anyElem mb n D ∧ IsMap D ∧ ∀ z, okKey z → (∀ d, D.atKey (.int .i64 z) (.held d) = .held ((f z).getD d)) ∧ has D (.int .i64 z) = (f z).isSome
theorem VMap.made (w : World) : VMap (w.alloc (.map #[] 0)) w.heap.size 0 (fun _ => none) := ⟨.map [], World.ownsMap_made w _ _ _, ⟨[], rfl⟩, fun _ _ => ⟨fun _ => rfl, rfl⟩⟩
theorem VMap.kept {S : Nat → Prop} {w w' : World} {mb n : Nat} {f : Int → Option Value} (h : VMap w mb n f) (hM : Mod S w w') (hS : ¬ S mb) : VMap w' mb n f := by
 obtain ⟨D, ⟨es, clock, hb, F, hn, hD⟩, h2, h3⟩ := h
 exact ⟨D, ⟨es, clock, (hM.block mb (Array.getElem?_eq_some_iff.1 hb).1 hS).trans hb, F, hn, hD⟩, h2, h3⟩
theorem VMap.lt {w : World} {mb n : Nat} {f : Int → Option Value} (h : VMap w mb n f) : mb < w.heap.size := by
 obtain ⟨D, h1, _⟩ := h; exact h1.lt
theorem VMap.ne {w : World} {mb n b : Nat} {f : Int → Option Value} {C : Array Value} {T : TypeId} (h : VMap w mb n f) (hb : Blk w b C T) : mb ≠ b := by
 obtain ⟨D, ⟨es, clock, h1, _⟩, _⟩ := h
 rintro rfl
 unfold Blk at hb
 rw [h1] at hb
 simp at hb
theorem VMap.look {t e : TypeId} {w : World} {mb n : Nat} {z : Int} {f : Int → Option Value} {zv : Value} (h : VMap w mb n f) (hz : okKey z) (ht : Tryz.prog.underlying t = some (.map 3 e)) (h0 : (zeroValue e).run Tryz.prog w = .ok zv w) :
  (Instr.lookup t (.map (some mb)) (.int .i64 z) false).run Tryz.prog w = .ok ((f z).getD zv) w := by
 obtain ⟨D, h1, h2, h3⟩ := h
 obtain ⟨v, ps, hr, hv⟩ := h1.lookup lawInt ht h0 (zd := .held zv) (zp := []) rfl (okKey_key hz)
 rw [(h3 z hz).1 zv] at hv
 simp only [anyElem, Option.some.injEq, Prod.mk.injEq, DataW.held.injEq] at hv
 rw [hr, hv.1]
theorem VMap.put {t e : TypeId} {w : World} {mb n : Nat} {z : Int} {f : Int → Option Value} (v : Value) (h : VMap w mb n f) (hz : okKey z) (hn : n < maxLen) (ht : Tryz.prog.underlying t = some (.map 3 e)) :
  ∃ w', (Instr.mapUpdate t (.map (some mb)) (.int .i64 z) v).run Tryz.prog w = .ok () w' ∧ VMap w' mb (n + 1) (fun y => if y = z then some v else f y) ∧ Mod (fun k => k = mb) w w' := by
 obtain ⟨D, h1, h2, h3⟩ := h
 obtain ⟨w', hr, ho, hg⟩ := h1.update lawInt ht hn (okKey_key hz) (val := v) (d := .held v) (ps := []) rfl
 refine ⟨w', hr, ⟨_, ho, IsMap.put h2 _ _, fun y hy => ?_⟩, (Mod.refl (fun k => k = mb) w).grown hg (fun k hk _ => (Option.some.inj hk).symm)⟩
 by_cases he : y = z
 ·subst he
  refine ⟨fun d => ?_, ?_⟩
  ·rw [atKey_put_same h2 (lawInt.key (okKey_key hz))]; simp
  ·rw [has_put_same h2 (lawInt.key (okKey_key hz))]; simp
 ·have hne : Lit.int .i64 y ≠ Lit.int .i64 z := by simpa using he
  refine ⟨fun d => ?_, ?_⟩
  ·rw [atKey_put_other hne, (h3 y hy).1 d]; simp [he]
  ·rw [has_put_other hne, (h3 y hy).2]; simp [he]
theorem wpList_insert_v {t e : TypeId} {w : World} {ops : Array Oper} {rest : List Oper} {o : Oper} {a : Act} {Q : Exit → Act → World → Prop} (hg : o.guard = none) (m x v : Operand) (hop : o.op = Op.insert t m x v) (ht : Tryz.prog.underlying t = some (.map 3 e))
  {mb n : Nat} {f : Int → Option Value} {z : Int} {val : Value} (hm : a.eval m = .map (some mb)) (h : VMap w mb n f) (hn : n < maxLen) (hx : a.eval x = .int .i64 z) (hz : okKey z) (hv : a.eval v = val)
  (hK : ∀ w', VMap w' mb (n + 1) (fun y => if y = z then some val else f y) → Mod (fun k => k = mb) w w' → wpList Tryz.prog ops Q rest (a.put o.dst undef) w') : wpList Tryz.prog ops Q (o :: rest) a w := by
 obtain ⟨w', hr, h1, h2⟩ := h.put val hz hn ht
 refine wpList_plain hg fun K' hK' => ?_
 unfold Oper.wp
 simp [execOp, hop, hm, hx, hv, hr, Result.andThen]
 exact hK' _ _ (hK w' h1 h2)
end Go.Proofs.YtahgidkpjmecdaaGreatDoor
