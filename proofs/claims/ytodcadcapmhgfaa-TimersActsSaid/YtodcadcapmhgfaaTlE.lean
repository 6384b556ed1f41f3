/- Equality of timers; the document's Same of two rows of timers. (printed by genlaw12.py) -/
import Derived.Test.YtodcadcapmhgfaaTlD
import Derived.ChangeKeysEq
import Derived.Laws.StructEq
import Derived.WalkLawsBesides
namespace Go.Proofs.Ytodcadcapmhgfaa
open Go.RowKit

theorem partT0 (w : World) (s : Tm) : (part 25 (tmA s) 0).run Try.prog w = .ok (.int .u64 (s.t : Int)) w := by kernel_rfl
theorem partT1 (w : World) (s : Tm) : (part 3 (tmA s) 1).run Try.prog w = .ok (.int .i64 s.c) w := by kernel_rfl
theorem partT2 (w : World) (s : Tm) : (part 3 (tmA s) 2).run Try.prog w = .ok (.int .i64 s.k) w := by kernel_rfl
theorem fieldsT : (Program.fieldsOf Try.prog 27).toList.map (fun f => (decide (f.name ≠ "_"), f.type, f.offset)) = [(true, 25, 0), (true, 3, 1), (true, 3, 2)] := by kernel_rfl
theorem guardT : Program.eqGuardType Try.prog (Program.depth Try.prog) 27 = false := by kernel_rfl
theorem underT : Program.underlying Try.prog 27 = some (.struct (Program.fieldsOf Try.prog 27)) := by kernel_rfl
theorem stoodT : Program.stoodInHeld Try.prog 27 = false := by kernel_rfl
theorem threeT {α : Type} {β : Type} {l : List α} {f : α → β} {a b c : β} (h : l.map f = [a, b, c]) : ∃ x0 x1 x2, l = [x0, x1, x2] ∧ f x0 = a ∧ f x1 = b ∧ f x2 = c := by
  match l, h with
  | [x0, x1, x2], h => simp at h; exact ⟨x0, x1, x2, rfl, h.1, h.2.1, h.2.2⟩
theorem eqIntU (w : World) (d : Nat) (m n : Int) : (Op.equalIn (d + 1) 25 (.int .u64 m) (.int .u64 n)).run Try.prog w = .ok (m == n) w := by
  rw [run_equalIn_int w d 25 .u64 .u64 _ _ Try.underlying25]
theorem eqIntI (w : World) (d : Nat) (m n : Int) : (Op.equalIn (d + 1) 3 (.int .i64 m) (.int .i64 n)).run Try.prog w = .ok (m == n) w := by
  rw [run_equalIn_int w d 3 .i64 .i64 _ _ Try.underlying3]
theorem eqFields_cons {P : Program} (w : World) (d : Nat) (xs ys : Array Value) (f : Field) (fs : List Field) (a b : Value) (r : Bool) (hn : decide (f.name ≠ "_") = true) (h1 : (part f.type xs f.offset).run P w = .ok a w) (h2 : (part f.type ys f.offset).run P w = .ok b w) (h3 : (Op.equalIn d f.type a b).run P w = .ok r w) (R : Bool) (h4 : (Op.eqFields d xs ys fs).run P w = .ok R w) :
    (Op.eqFields d xs ys (f :: fs)).run P w = .ok (r && R) w := by
  rw [Op.eqFields, if_pos (by simpa using hn)]
  simp only [Sem.run_bind, h1, h2, h3, Result.andThen_ok]
  cases r
  · simp
  · simp [h4]
theorem eqT (w : World) (d : Nat) (s t : Tm) : (Op.equalIn (d + 4) 27 (.agg (tmA s)) (.agg (tmA t))).run Try.prog w = .ok (decide (s = t)) w := by
  rw [run_equalIn_struct w (d + 3) 27 _ _ underT stoodT]
  obtain ⟨x0, x1, x2, e, k0, k1, k2⟩ := threeT fieldsT
  simp only [Prod.mk.injEq] at k0 k1 k2
  obtain ⟨n0, t0, o0⟩ := k0
  obtain ⟨n1, t1, o1⟩ := k1
  obtain ⟨n2, t2, o2⟩ := k2
  rw [e]
  have s2 := eqFields_cons w (d + 3) (tmA s) (tmA t) x2 [] _ _ _ n2 (by rw [t2, o2]; exact partT2 w s) (by rw [t2, o2]; exact partT2 w t) (by rw [t2]; exact eqIntI w (d + 2) s.k t.k) true (by simp [Op.eqFields])
  have s1 := eqFields_cons w (d + 3) (tmA s) (tmA t) x1 _ _ _ _ n1 (by rw [t1, o1]; exact partT1 w s) (by rw [t1, o1]; exact partT1 w t) (by rw [t1]; exact eqIntI w (d + 2) s.c t.c) _ s2
  have s0 := eqFields_cons w (d + 3) (tmA s) (tmA t) x0 _ _ _ _ n0 (by rw [t0, o0]; exact partT0 w s) (by rw [t0, o0]; exact partT0 w t) (by rw [t0]; exact eqIntU w (d + 2) s.t t.t) _ s1
  rw [s0]
  refine congrArg (fun b => (Result.ok b w : Result Bool)) ?_
  obtain ⟨a, b, c⟩ := s
  obtain ⟨a', b', c'⟩ := t
  rw [Bool.eq_iff_iff]
  simp only [Bool.and_true, Bool.and_eq_true, beq_iff_eq, decide_eq_true_eq, Tm.mk.injEq]
  omega
set_option maxRecDepth 20000 in
theorem tm_neq (w : World) (s t : Tm) : (binOp .neq 27 (.agg (tmA s)) (.agg (tmA t))).run Try.prog w = .ok (.bool (!decide (s = t))) w := by
  rw [run_neq_struct, show (10000 : Nat) = 9996 + 4 from rfl, eqT w 9996 s t]
  rfl
set_option maxRecDepth 20000 in
theorem tm_eql (w : World) (s t : Tm) : (binOp .eql 27 (.agg (tmA s)) (.agg (tmA t))).run Try.prog w = .ok (.bool (decide (s = t))) w := by
  rw [run_eql_struct, show (10000 : Nat) = 9996 + 4 from rfl, eqT w 9996 s t]
  rfl
theorem exec_eqT {P : Program} {w : World} {a : Act} {op : Oper} {b : BinOp} {ty t' : TypeId} {x y : Operand} (ho : op.op = .binOp b ty x y t') {X Y : Array Value} (hx : a.eval x = .agg X) (hy : a.eval y = .agg Y) (hg : P.eqGuardType P.depth ty = false) {r : Bool} (hrun : (binOp b ty (.agg X) (.agg Y)).run P w = .ok (.bool r) w) : (execOp a.eval op).run P w = .ok (.value (.bool r)) w := by
  unfold execOp
  simp only [ho, hx, hy, Sem.run_bind, run_eqGuard_agg (P := P) w b ty x y X Y hg, Result.andThen_ok, hrun, Sem.run_pure]
theorem take_snocT {l : List Tm} {k : Nat} {x : Tm} (hx : l[k]? = some x) : l.take (k + 1) = l.take k ++ [x] := by rw [List.take_add_one, hx]; rfl
set_option maxHeartbeats 4000000 in
set_option maxRecDepth 10000 in
theorem same_tm {w : World} {va vb : Value} {la lb : List Tm} (ha : TmV w va la) (hb : TmV w vb lb) (hl : la.length ≤ 1000) (hl2 : lb.length ≤ 1000) :
    Calls Try.prog 25 #[va, vb] w fun e w' => e = .returned (.bool (decide (la = lb))) ∧ Mod (fun _ => False) w w' := by
  have HA := Lib.hid ha
  have HB := Lib.hid hb
  obtain ⟨a, ca, rfl, hca, -⟩ := ha.val
  obtain ⟨b, cb, rfl, hcb, -⟩ := hb.val
  obtain ⟨n, hn⟩ : ∃ n, n = la.length := ⟨_, rfl⟩
  obtain ⟨m, hm⟩ : ∃ n, n = lb.length := ⟨_, rfl⟩
  rw [← hn] at HA hca hl ⊢
  rw [← hm] at HB hcb hl2 ⊢
  have HN := Lib.hid (And.intro hn hm)
  have n1 : (n : Int) ≤ 1000 := by omega
  have m1 : (m : Int) ≤ 1000 := by omega
  clear ha hb hca hcb hl hl2 hn hm
  by_cases hnm : n = m
  · subst hnm
    go_enter Try.func25, Try.ntmps25
    go_wp2_with fail
    go_loopw [5] (fun s5 wr => ∃ (i : Nat), s5 = .int .i64 (i : Int) ∧ i ≤ n ∧ Hid (Mod (fun _ => False) w wr ∧ la.take i = lb.take i)) (fun s5 _ => n - (match s5 with | .int _ z => z.toNat | _ => 0))
    case atStart => exact ⟨0, rfl, Nat.zero_le _, Lib.hid ⟨Mod.refl _ _, by simp⟩⟩
    case round =>
      obtain ⟨i, rfl, hi, HS⟩ := hrel
      have i0 : (0 : Int) ≤ (i : Int) := by omega
      have HI := Lib.hid hi
      by_cases hlt : i < n
      · have i1 : (i : Int) < (n : Int) := by omega
        obtain ⟨x, hx⟩ : ∃ x, la[i]? = some x := ⟨_, List.getElem?_eq_getElem (by have := HN.out; omega)⟩
        obtain ⟨y, hy⟩ : ∃ x, lb[i]? = some x := ⟨_, List.getElem?_eq_getElem (by have := HN.out; omega)⟩
        obtain ⟨b1, o1, c1, hv1, hr1⟩ := HA.out.at hx
        obtain ⟨b2, o2, c2, hv2, hr2⟩ := HB.out.at hy
        simp only [Value.slice.injEq] at hv1 hv2
        obtain ⟨rfl, -, -⟩ := hv1
        obtain ⟨rfl, -, -⟩ := hv2
        have HR := Lib.hid (And.intro hr1 hr2)
        have HX := Lib.hid (And.intro hx hy)
        have HII := Lib.hid hlt
        clear hr1 hr2 hx hy hi hlt
        by_cases hxy : x = y
        · subst hxy
          go_upto_region 6 with fail
          refine wp_region_held_drew (S := fun X => Mod (fun _ => False) w X) (by kernel_rfl) HS.out.1.drew (fun hS => ?_)
          refine' takeH (i := 0) (v := _) (some 17) rfl rfl (by kernel_rfl) (by kernel_rfl) (by kernel_rfl) (fun _ _ _ h => h) (Or.inl ⟨by rfl, fun X hX => ?_⟩) hS ?_
          rotate_left
          · go_simp; exact rfl
          (try go_frame)
          refine' takeH (i := 1) (v := _) (some 18) rfl rfl (by kernel_rfl) (by kernel_rfl) (by kernel_rfl) (fun _ _ _ h => h) (Or.inl ⟨by rfl, fun X hX => ?_⟩) hS ?_
          rotate_left
          · go_simp; exact rfl
          (try go_frame)
          refine' takeH (i := 2) (v := _) (some 19) rfl rfl (by kernel_rfl) (by kernel_rfl) (by kernel_rfl) (fun _ _ _ h => h) (Or.inl ⟨by rfl, fun X hX => ?_⟩) hS ?_
          rotate_left
          · go_simp; exact rfl
          (try go_frame)
          refine takeH (i := 3) (v := .agg (tmA x)) (some 20) rfl rfl (by kernel_rfl) (by kernel_rfl) (by kernel_rfl) (fun _ _ _ h => h) (Or.inl ⟨by rfl, fun X hX => ?_⟩) hS ?_
          · exact exec_tm (x := .tmp 19) (g := b1) (o := o1 + i * 3) (t := x) rfl rfl (fun j u hu => hX.cellAt (HR.out.1 j u hu) (fun e => e))
          (try go_frame)
          refine' takeH (i := 4) (v := _) (some 21) rfl rfl (by kernel_rfl) (by kernel_rfl) (by kernel_rfl) (fun _ _ _ h => h) (Or.inl ⟨by rfl, fun X hX => ?_⟩) hS ?_
          rotate_left
          · go_simp; exact rfl
          (try go_frame)
          refine' takeH (i := 5) (v := _) (some 22) rfl rfl (by kernel_rfl) (by kernel_rfl) (by kernel_rfl) (fun _ _ _ h => h) (Or.inl ⟨by rfl, fun X hX => ?_⟩) hS ?_
          rotate_left
          · go_simp; exact rfl
          (try go_frame)
          refine' takeH (i := 6) (v := _) (some 23) rfl rfl (by kernel_rfl) (by kernel_rfl) (by kernel_rfl) (fun _ _ _ h => h) (Or.inl ⟨by rfl, fun X hX => ?_⟩) hS ?_
          rotate_left
          · go_simp; exact rfl
          (try go_frame)
          refine takeH (i := 7) (v := .agg (tmA x)) (some 24) rfl rfl (by kernel_rfl) (by kernel_rfl) (by kernel_rfl) (fun _ _ _ h => h) (Or.inl ⟨by rfl, fun X hX => ?_⟩) hS ?_
          · exact exec_tm (x := .tmp 23) (g := b2) (o := o2 + i * 3) (t := x) rfl rfl (fun j u hu => hX.cellAt (HR.out.2 j u hu) (fun e => e))
          (try go_frame)
          refine takeH (i := 8) (v := .bool false) (some 25) rfl rfl (by kernel_rfl) (by kernel_rfl) (by kernel_rfl) (fun _ _ _ h => h) (Or.inl ⟨by rfl, fun X hX => ?_⟩) hS ?_
          · have e := tm_neq X x x; rw [show (!decide (x = x)) = false by simp] at e; exact exec_eqT (b := .neq) (ty := 27) (x := .tmp 20) (y := .tmp 24) rfl rfl rfl guardT e
          (try go_frame)
          refine wpAnyH_done (by kernel_rfl) ?_ _
          have HS2 := Lib.hid hS
          clear hS
          go_wp2_with fail
          go_roundw
          case rel => exact ⟨i + 1, by go_num, by have := HII.out; omega, Lib.hid ⟨HS2.out, by rw [take_snocT HX.out.1, take_snocT HX.out.2, HS.out.2]⟩⟩
          case measure => have := HII.out; simp; omega
        · go_upto_region 6 with fail
          refine wp_region_held_drew (S := fun X => Mod (fun _ => False) w X) (by kernel_rfl) HS.out.1.drew (fun hS => ?_)
          refine' takeH (i := 0) (v := _) (some 17) rfl rfl (by kernel_rfl) (by kernel_rfl) (by kernel_rfl) (fun _ _ _ h => h) (Or.inl ⟨by rfl, fun X hX => ?_⟩) hS ?_
          rotate_left
          · go_simp; exact rfl
          (try go_frame)
          refine' takeH (i := 1) (v := _) (some 18) rfl rfl (by kernel_rfl) (by kernel_rfl) (by kernel_rfl) (fun _ _ _ h => h) (Or.inl ⟨by rfl, fun X hX => ?_⟩) hS ?_
          rotate_left
          · go_simp; exact rfl
          (try go_frame)
          refine' takeH (i := 2) (v := _) (some 19) rfl rfl (by kernel_rfl) (by kernel_rfl) (by kernel_rfl) (fun _ _ _ h => h) (Or.inl ⟨by rfl, fun X hX => ?_⟩) hS ?_
          rotate_left
          · go_simp; exact rfl
          (try go_frame)
          refine takeH (i := 3) (v := .agg (tmA x)) (some 20) rfl rfl (by kernel_rfl) (by kernel_rfl) (by kernel_rfl) (fun _ _ _ h => h) (Or.inl ⟨by rfl, fun X hX => ?_⟩) hS ?_
          · exact exec_tm (x := .tmp 19) (g := b1) (o := o1 + i * 3) (t := x) rfl rfl (fun j u hu => hX.cellAt (HR.out.1 j u hu) (fun e => e))
          (try go_frame)
          refine' takeH (i := 4) (v := _) (some 21) rfl rfl (by kernel_rfl) (by kernel_rfl) (by kernel_rfl) (fun _ _ _ h => h) (Or.inl ⟨by rfl, fun X hX => ?_⟩) hS ?_
          rotate_left
          · go_simp; exact rfl
          (try go_frame)
          refine' takeH (i := 5) (v := _) (some 22) rfl rfl (by kernel_rfl) (by kernel_rfl) (by kernel_rfl) (fun _ _ _ h => h) (Or.inl ⟨by rfl, fun X hX => ?_⟩) hS ?_
          rotate_left
          · go_simp; exact rfl
          (try go_frame)
          refine' takeH (i := 6) (v := _) (some 23) rfl rfl (by kernel_rfl) (by kernel_rfl) (by kernel_rfl) (fun _ _ _ h => h) (Or.inl ⟨by rfl, fun X hX => ?_⟩) hS ?_
          rotate_left
          · go_simp; exact rfl
          (try go_frame)
          refine takeH (i := 7) (v := .agg (tmA y)) (some 24) rfl rfl (by kernel_rfl) (by kernel_rfl) (by kernel_rfl) (fun _ _ _ h => h) (Or.inl ⟨by rfl, fun X hX => ?_⟩) hS ?_
          · exact exec_tm (x := .tmp 23) (g := b2) (o := o2 + i * 3) (t := y) rfl rfl (fun j u hu => hX.cellAt (HR.out.2 j u hu) (fun e => e))
          (try go_frame)
          refine takeH (i := 8) (v := .bool true) (some 25) rfl rfl (by kernel_rfl) (by kernel_rfl) (by kernel_rfl) (fun _ _ _ h => h) (Or.inl ⟨by rfl, fun X hX => ?_⟩) hS ?_
          · have e := tm_neq X x y; rw [show (!decide (x = y)) = true by simp [hxy]] at e; exact exec_eqT (b := .neq) (ty := 27) (x := .tmp 20) (y := .tmp 24) rfl rfl rfl guardT e
          (try go_frame)
          refine wpAnyH_done (by kernel_rfl) ?_ _
          have HS2 := Lib.hid hS
          have HXY := Lib.hid hxy
          clear hS hxy
          go_wp2_with fail
          go_ret
          have hne : decide (la = lb) = false := decide_eq_false (fun e => by
            have h1 := HX.out.1
            rw [e, HX.out.2] at h1
            cases h1
            exact HXY.out rfl)
          exact ⟨by rw [hne]; rfl, HS2.out⟩
      · have i1 : ¬ (i : Int) < (n : Int) := by omega
        obtain rfl : i = n := by omega
        clear hlt hi
        go_wp2_with fail
        go_ret
        have he : decide (la = lb) = true := decide_eq_true (by
          have h1 := HS.out.2
          rwa [List.take_of_length_le (by have := HN.out; omega), List.take_of_length_le (by have := HN.out; omega)] at h1)
        exact ⟨by rw [he]; rfl, HS.out.1⟩
  · have hb : ((n : Int) != (m : Int)) = true := by simp; omega
    have HNM := Lib.hid hnm
    clear hnm
    go_enter Try.func25, Try.ntmps25
    go_wp2_with fail
    go_ret
    have hne : decide (la = lb) = false := decide_eq_false (fun e => HNM.out (by rw [HN.out.1, HN.out.2, e]))
    exact ⟨by rw [hne]; rfl, Mod.refl _ _⟩
end Go.Proofs.Ytodcadcapmhgfaa
