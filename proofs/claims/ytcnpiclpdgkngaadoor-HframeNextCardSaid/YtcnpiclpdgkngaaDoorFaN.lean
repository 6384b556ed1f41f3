/- The program's Same of frames. -/
import Derived.Test.YtcnpiclpdgkngaaDoorFaM
import Derived.WalkLawsBesides
namespace Go.Proofs.YtcnpiclpdgkngaaDoor
open Go.RowKit

def setA (s : Nat × Nat) : Array Value := #[.int .u64 (s.1 : Int), .int .u64 (s.2 : Int)]
theorem partSet0 (w : World) (s : Nat × Nat) : (part 22 (setA s) 0).run Tryd.prog w = .ok (.int .u64 (s.1 : Int)) w := by kernel_rfl
theorem partSet1 (w : World) (s : Nat × Nat) : (part 22 (setA s) 1).run Tryd.prog w = .ok (.int .u64 (s.2 : Int)) w := by kernel_rfl
theorem fields49 : (Program.fieldsOf Tryd.prog 49).toList.map (fun f => (decide (f.name ≠ "_"), f.type, f.offset)) = [(true, 22, 0), (true, 22, 1)] := by kernel_rfl
theorem guard49 : Program.eqGuardType Tryd.prog (Program.depth Tryd.prog) 49 = false := by kernel_rfl
theorem under49 : Program.underlying Tryd.prog 49 = some (.struct (Program.fieldsOf Tryd.prog 49)) := by kernel_rfl
theorem stood49 : Program.stoodInHeld Tryd.prog 49 = false := by kernel_rfl
theorem two49 {α : Type} {β : Type} {l : List α} {f : α → β} {a b : β} (h : l.map f = [a, b]) : ∃ x0 x1, l = [x0, x1] ∧ f x0 = a ∧ f x1 = b := by
  match l, h with
  | [x0, x1], h => simp at h; exact ⟨x0, x1, rfl, h.1, h.2⟩
theorem eqInt (w : World) (d : Nat) (m n : Nat) : (Op.equalIn (d + 1) 22 (.int .u64 (m : Int)) (.int .u64 (n : Int))).run Tryd.prog w = .ok (m == n) w := by
  rw [run_equalIn_int w d 22 .u64 .u64 _ _ Tryd.underlying22]
  congr 1
  rw [Bool.eq_iff_iff]; simp only [beq_iff_eq]; omega
theorem eqFields_cons {P : Program} (w : World) (d : Nat) (xs ys : Array Value) (f : Field) (fs : List Field) (a b : Value) (r : Bool) (hn : decide (f.name ≠ "_") = true) (h1 : (part f.type xs f.offset).run P w = .ok a w) (h2 : (part f.type ys f.offset).run P w = .ok b w) (h3 : (Op.equalIn d f.type a b).run P w = .ok r w) (R : Bool) (h4 : (Op.eqFields d xs ys fs).run P w = .ok R w) :
    (Op.eqFields d xs ys (f :: fs)).run P w = .ok (r && R) w := by
  rw [Op.eqFields, if_pos (by simpa using hn)]
  simp only [Sem.run_bind, h1, h2, h3, Result.andThen_ok]
  cases r
  · simp
  · simp [h4]
theorem eqSet (w : World) (d : Nat) (s t : Nat × Nat) :
    (Op.equalIn (d + 3) 49 (.agg (setA s)) (.agg (setA t))).run Tryd.prog w = .ok (decide (s = t)) w := by
  rw [run_equalIn_struct w (d + 2) 49 _ _ under49 stood49]
  obtain ⟨x0, x1, e, k0, k1⟩ := two49 fields49
  simp only [Prod.mk.injEq] at k0 k1
  obtain ⟨n0, t0, o0⟩ := k0
  obtain ⟨n1, t1, o1⟩ := k1
  rw [e]
  have s1 := eqFields_cons w (d + 2) (setA s) (setA t) x1 [] _ _ _ n1 (by rw [t1, o1]; exact partSet1 w s) (by rw [t1, o1]; exact partSet1 w t) (by rw [t1]; exact eqInt w (d + 1) s.2 t.2) true (by simp [Op.eqFields])
  have s0 := eqFields_cons w (d + 2) (setA s) (setA t) x0 _ _ _ _ n0 (by rw [t0, o0]; exact partSet0 w s) (by rw [t0, o0]; exact partSet0 w t) (by rw [t0]; exact eqInt w (d + 1) s.1 t.1) _ s1
  rw [s0]
  refine congrArg (fun b => (Result.ok b w : Result Bool)) ?_
  obtain ⟨a, b⟩ := s
  obtain ⟨c, d⟩ := t
  rw [Bool.eq_iff_iff]
  simp only [Bool.and_true, Bool.and_eq_true, beq_iff_eq, decide_eq_true_eq, Prod.mk.injEq]
set_option maxRecDepth 20000 in
theorem set_neq (w : World) (s t : Nat × Nat) : (binOp .neq 49 (.agg (setA s)) (.agg (setA t))).run Tryd.prog w = .ok (.bool (!decide (s = t))) w := by
  rw [run_neq_struct, show (10000 : Nat) = 9997 + 3 from rfl, eqSet w 9997 s t]
  rfl
theorem exec_eq {P : Program} {w : World} {a : Act} {op : Oper} {b : BinOp} {ty t' : TypeId} {x y : Operand} (ho : op.op = .binOp b ty x y t') {X Y : Array Value} (hx : a.eval x = .agg X) (hy : a.eval y = .agg Y) (hg : P.eqGuardType P.depth ty = false) {r : Bool} (hrun : (binOp b ty (.agg X) (.agg Y)).run P w = .ok (.bool r) w) : (execOp a.eval op).run P w = .ok (.value (.bool r)) w := by
  unfold execOp
  simp only [ho, hx, hy, Sem.run_bind, run_eqGuard_agg (P := P) w b ty x y X Y hg, Result.andThen_ok, hrun, Sem.run_pure]
theorem take_eq_step {α : Type} {l m : List α} {k : Nat} {x y : α} (h : l.take k = m.take k) (hx : l[k]? = some x) (hy : m[k]? = some y) (he : x = y) : l.take (k + 1) = m.take (k + 1) := by
  rw [take_snoc l k x hx, take_snoc m k y hy, h, he]
set_option maxHeartbeats 1000000 in
set_option maxRecDepth 10000 in
theorem seteqs_any {w : World} {va vb : Value} {la lb : List (Nat × Nat)} (ha : SetV w va la) (hb : SetV w vb lb) (hn : (la.length : Int) ≤ 100000) (hm : (lb.length : Int) ≤ 100000) :
    Calls Tryd.prog 31 #[va, vb] w fun e w' => e = .returned (.bool (decide (la = lb))) ∧ Mod (fun _ => False) w w' := by
  have HA := Lib.hid ha
  have HB := Lib.hid hb
  obtain ⟨a, ca, rfl, hca, _⟩ := set_val ha
  obtain ⟨b, cb, rfl, hcb, _⟩ := set_val hb
  obtain ⟨n, hnn⟩ : ∃ n, n = la.length := ⟨_, rfl⟩
  obtain ⟨m, hmm⟩ : ∃ n, n = lb.length := ⟨_, rfl⟩
  rw [← hnn] at hn hca ⊢
  rw [← hmm] at hm hcb ⊢
  have HN := Lib.hid hnn
  have HM := Lib.hid hmm
  obtain ⟨R, hR⟩ : ∃ R, R = decide (la = lb) := ⟨_, rfl⟩
  rw [← hR]
  have HRR := Lib.hid hR
  have hnc : (n : Int) ≤ ca := by omega
  have hmc : (m : Int) ≤ cb := by omega
  clear ha hb hca hcb hnn hmm hR
  by_cases hnm : n = m
  case neg =>
    have HNM := Lib.hid hnm
    have hd : ((n : Int) != (m : Int)) = true := by simp; omega
    clear hnm
    go_enter Tryd.func31, Tryd.ntmps31
    go_wp2
    go_ret
    refine ⟨ret_bool ?_, Mod.refl _ _⟩
    rw [HRR.out]
    symm
    apply decide_eq_false
    intro e
    exact HNM.out (by rw [HN.out, HM.out, e])
  case pos =>
    subst hnm
    go_enter Tryd.func31, Tryd.ntmps31
    go_wp2
    go_loopw [13] (fun s13 wr => ∃ k : Nat, k ≤ n ∧ s13 = .int .i64 k ∧ Mod (fun _ => False) w wr ∧ Hid (la.take k = lb.take k)) (fun s13 _ => n - (intOf s13).toNat)
    case atStart => exact ⟨0, Nat.zero_le _, rfl, Mod.refl _ _, rfl⟩
    case round =>
      obtain ⟨k, hk, rfl, hM, HJ⟩ := hrel
      have HMr := Lib.hid hM
      clear hM
      by_cases hkn : (k : Int) < n
      · have hka : k < la.length := by have := HN.out; omega
        have hkb : k < lb.length := by have := HM.out; omega
        have hs : la[k]? = some la[k] := List.getElem?_eq_getElem hka
        have ht : lb[k]? = some lb[k] := List.getElem?_eq_getElem hkb
        generalize la[k] = s at hs
        generalize lb[k] = t at ht
        obtain ⟨ba, oa, cpa, hv, _, _, hcs⟩ := set_addr HA.out (by rintro rfl; simp at hka)
        simp only [Value.slice.injEq] at hv
        obtain ⟨rfl, _, rfl⟩ := hv
        obtain ⟨bb, ob, cpb, hv, _, _, hct⟩ := set_addr HB.out (by rintro rfl; simp at hkb)
        simp only [Value.slice.injEq] at hv
        obtain ⟨rfl, _, rfl⟩ := hv
        obtain ⟨g0, g1⟩ := hcs k s hs
        obtain ⟨h0, h1⟩ := hct k t ht
        have g0' := HMr.out.drew.cellAt g0 (fun h => h)
        have g1' := HMr.out.drew.cellAt g1 (fun h => h)
        have h0' := HMr.out.drew.cellAt h0 (fun h => h)
        have h1' := HMr.out.drew.cellAt h1 (fun h => h)
        have HS := Lib.hid hs
        have HT := Lib.hid ht
        clear g0 g1 h0 h1 hs ht hcs hct hka hkb
        obtain ⟨c, hc⟩ : ∃ c, c = !decide (s = t) := ⟨_, rfl⟩
        have HC := Lib.hid hc
        clear hc
        go_wp2_with fail
        refine wp_region_held_drew (S := fun X => X.cell? ⟨ba, oa + k * 2, none⟩ = some (.int .u64 (s.1 : Int)) ∧ X.cell? ⟨ba, oa + k * 2 + 1, none⟩ = some (.int .u64 (s.2 : Int)) ∧ X.cell? ⟨bb, ob + k * 2, none⟩ = some (.int .u64 (t.1 : Int)) ∧ X.cell? ⟨bb, ob + k * 2 + 1, none⟩ = some (.int .u64 (t.2 : Int))) (by kernel_rfl) ⟨g0', g1', h0', h1'⟩ (fun hS => ?_)
        refine wpAnyH_take (i := 0) (v := .slice (some ⟨ba, oa, none⟩) n ca) rfl (by kernel_rfl) (by kernel_rfl) (by kernel_rfl) (fun _ _ _ h => h) (Or.inl ⟨by rfl, fun X hX => ?_⟩) hS ?_
        · go_simp
        refine wpAnyH_take (i := 1) (v := .int .i64 k) rfl (by kernel_rfl) (by kernel_rfl) (by kernel_rfl) (fun _ _ _ h => h) (Or.inl ⟨by rfl, fun X hX => ?_⟩) hS ?_
        · go_simp
        refine wpAnyH_take (i := 2) (v := .pointer (some ⟨ba, oa + k * 2, none⟩)) rfl (by kernel_rfl) (by kernel_rfl) (by kernel_rfl) (fun _ _ _ h => h) (Or.inl ⟨by rfl, fun X hX => ?_⟩) hS ?_
        · go_simp
        refine wpAnyH_take (i := 3) (v := .agg (setA s)) rfl (by kernel_rfl) (by kernel_rfl) (by kernel_rfl) (fun _ _ _ h => h) (Or.inl ⟨by rfl, fun X hX => ?_⟩) hS ?_
        · have x0 := hX.1; have x1 := hX.2.1; go_simp; rfl
        refine wpAnyH_take (i := 4) (v := .slice (some ⟨bb, ob, none⟩) n cb) rfl (by kernel_rfl) (by kernel_rfl) (by kernel_rfl) (fun _ _ _ h => h) (Or.inl ⟨by rfl, fun X hX => ?_⟩) hS ?_
        · go_simp
        refine wpAnyH_take (i := 5) (v := .int .i64 k) rfl (by kernel_rfl) (by kernel_rfl) (by kernel_rfl) (fun _ _ _ h => h) (Or.inl ⟨by rfl, fun X hX => ?_⟩) hS ?_
        · go_simp
        refine wpAnyH_take (i := 6) (v := .pointer (some ⟨bb, ob + k * 2, none⟩)) rfl (by kernel_rfl) (by kernel_rfl) (by kernel_rfl) (fun _ _ _ h => h) (Or.inl ⟨by rfl, fun X hX => ?_⟩) hS ?_
        · go_simp
        refine wpAnyH_take (i := 7) (v := .agg (setA t)) rfl (by kernel_rfl) (by kernel_rfl) (by kernel_rfl) (fun _ _ _ h => h) (Or.inl ⟨by rfl, fun X hX => ?_⟩) hS ?_
        · have x0 := hX.2.2.1; have x1 := hX.2.2.2; go_simp; rfl
        refine wpAnyH_take (i := 8) (v := .bool c) rfl (by kernel_rfl) (by kernel_rfl) (by kernel_rfl) (fun _ _ _ h => h) (Or.inl ⟨by rfl, fun X hX => ?_⟩) hS ?_
        · refine exec_eq (X := setA s) (Y := setA t) rfl ?_ ?_ guard49 (by rw [HC.out]; exact set_neq X s t) <;> go_simp
        refine wpAnyH_done (by kernel_rfl) ?_ _
        go_simp
        have HMd := Lib.hid (HMr.out.drew)
        cases c
        · have HE : Hid (s = t) := by have := HC.out; show s = t; simpa using this
          go_wp2_with fail
          go_roundw
          case rel => exact ⟨k + 1, by omega, by go_num, HMd.out, take_eq_step HJ.out HS.out HT.out HE.out⟩
          case measure => simp [intOf]; omega
        · have HE : Hid (¬ s = t) := by have := HC.out; show ¬ s = t; simpa using this
          go_wp2_with fail
          go_ret
          refine ⟨ret_bool ?_, HMd.out⟩
          rw [HRR.out]
          symm
          apply decide_eq_false
          rintro rfl
          have h1 := HS.out
          rw [HT.out] at h1
          exact HE.out (Option.some.inj h1).symm
      · have hkn' : k = n := by omega
        have e1 : la.take k = la := List.take_of_length_le (by have := HN.out; omega)
        have e2 : lb.take k = lb := List.take_of_length_le (by have := HM.out; omega)
        have HJ' := HJ.out
        rw [e1, e2] at HJ'
        have HJJ := Lib.hid HJ'
        clear e1 e2 HJ' 
        go_wp2
        go_ret
        refine ⟨ret_bool ?_, HMr.out⟩
        rw [HRR.out, HJJ.out]
        simp
set_option maxHeartbeats 4000000 in
set_option maxRecDepth 10000 in
theorem same_hf {w : World} {f g : HF} {vs vd us ud : Value} (hf : HFV w f vs vd) (hg : HFV w g us ud) : Calls Tryd.prog 17 #[hfA f vs vd, hfA g us ud] w fun e w' => e = .returned (.bool (sameHF f g)) ∧ Mod (fun _ => False) w w' := by
  have HSE := Lib.hid (fun X (h : Mod (fun _ => False) w X) => seteqs_any (hf.st.kept h) (hg.st.kept h) hf.sl hg.sl)
  have HDE := Lib.hid (fun X (h : Mod (fun _ => False) w X) => eq_any (byts_kept hf.d h) (byts_kept hg.d h))
  obtain ⟨sa, sc, rfl, _⟩ := set_val hf.st
  obtain ⟨da, dc, rfl, _⟩ := byts_val hf.d
  obtain ⟨ta, tc, rfl, _⟩ := set_val hg.st
  obtain ⟨ea, ec, rfl, _⟩ := byts_val hg.d
  have HK : Hid (sameHF f g = (decide (f.k = g.k) && decide ((f.id : Int) = g.id) && decide (f.st = g.st) && decide (f.d = g.d))) := by
    show _ = _
    unfold sameHF
    rw [show decide ((f.id : Int) = g.id) = decide (f.id = g.id) by rw [Bool.eq_iff_iff]; simp; omega]
  unfold hfA
  generalize sameHF f g = R at *
  generalize decide (f.st = g.st) = b3 at *
  generalize decide (f.d = g.d) = b4 at *
  clear hf hg
  generalize f.st.length = n1 at *
  generalize f.d.length = n2 at *
  generalize g.st.length = n3 at *
  generalize g.d.length = n4 at *
  generalize (f.id : Int) = i at *
  generalize (g.id : Int) = j at *
  generalize f.k = k at *
  generalize g.k = l at *
  have hM0 : Mod (fun _ => False) w ((w.alloc (.cells #[.int .i64 k, .int .u64 i, .slice sa n1 sc, .slice da n2 dc] 26)).alloc (.cells #[.int .i64 l, .int .u64 j, .slice ta n3 tc, .slice ea n4 ec] 26)) := ((Mod.refl _ w).alloc _).alloc _
  go_enter Tryd.func17, Tryd.ntmps17
  by_cases hk : k = l
  case neg =>
    have t1 : (k == l) = false := by simpa using hk
    have HR : Hid (R = false) := by show _ = _; rw [HK.out]; simp [hk]
    clear hk
    go_wp2
    go_ret
    exact ⟨ret_bool HR.out.symm, hM0⟩
  case pos =>
    have t1 : (k == l) = true := by simpa using hk
    by_cases hi : i = j
    case neg =>
      have t2 : (i == j) = false := by simpa using hi
      have HR : Hid (R = false) := by show _ = _; rw [HK.out]; simp [hi]
      clear hk hi
      go_wp2
      go_ret
      exact ⟨ret_bool HR.out.symm, hM0⟩
    case pos =>
      have t2 : (i == j) = true := by simpa using hi
      have HR : Hid (R = (b3 && b4)) := by show _ = _; rw [HK.out]; simp [hk, hi]
      clear hk hi
      go_wp2_with fail
      refine (HSE.out _ hM0).mono ?_
      rintro e w1 ⟨rfl, hM1⟩
      have hM2 := hM0.trans hM1
      have b1 := hM1.blk ((Blk.new w #[.int .i64 k, .int .u64 i, .slice sa n1 sc, .slice da n2 dc] 26).alloc (.cells #[.int .i64 l, .int .u64 j, .slice ta n3 tc, .slice ea n4 ec] 26)) (fun h => h)
      have b2 := hM1.blk (Blk.new (w.alloc (.cells #[.int .i64 k, .int .u64 i, .slice sa n1 sc, .slice da n2 dc] 26)) #[.int .i64 l, .int .u64 j, .slice ta n3 tc, .slice ea n4 ec] 26) (fun h => h)
      rw [show ∀ o : Obj, (w.alloc o).heap.size = w.heap.size + 1 from fun o => by simp] at b2
      have c1 := b1.cellAt 3 rfl
      have c2 := b2.cellAt 3 rfl
      clear b1 b2 hM1
      cases b3
      · have HR2 : Hid (R = false) := by show _ = _; rw [HR.out]; rfl
        go_wp2
        go_ret
        exact ⟨ret_bool HR2.out.symm, hM2⟩
      · have HR2 : Hid (R = b4) := by show _ = _; rw [HR.out]; rfl
        go_wp2_with fail
        refine (HDE.out _ hM2).mono ?_
        rintro e w2 ⟨rfl, rfl⟩
        cases b4
        · go_wp2
          go_ret
          exact ⟨ret_bool HR2.out.symm, hM2⟩
        · go_wp2
          go_ret
          exact ⟨ret_bool HR2.out.symm, hM2⟩
end Go.Proofs.YtcnpiclpdgkngaaDoor
