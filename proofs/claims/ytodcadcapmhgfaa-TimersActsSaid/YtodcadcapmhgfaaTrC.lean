/- The document's queue: appends of whole rows of timers; Cancel. (printed by gentrc.py) -/
import Derived.Test.YtodcadcapmhgfaaTrB
namespace Go.Proofs.Ytodcadcapmhgfaa
open Go.RowKit

theorem OwnT.appendL {w : World} {B : Nat} {v : Value} {h M : List Tm} {sv : Value} (ho : OwnT w B v h) (hs : TmV w sv M) (hl : h.length + M.length ≤ 1000) (hB : B ≤ w.heap.size) (ty : TypeId) :
    ∃ ap n cp w', (Builtin.append_ #[34, 34] ty #[v, sv]).run Try.prog w = .ok (.slice ap n cp) w' ∧ OwnT w' B (.slice ap n cp) (h ++ M) ∧ w.grownBy w' v.ownBlock ∧ ((Value.slice ap n cp).ownBlock = v.ownBlock ∨ (Value.slice ap n cp).ownBlock = some w.heap.size) := by
  obtain ⟨i0, hi, hz0, hz1, hz2⟩ := info_parts' infoTm
  obtain ⟨hsl, ao, c, rfl, h2, h3, h4, h5⟩ := hs
  cases ao with
  | none =>
    obtain rfl := h4 rfl
    have hm : M.length = 0 := by omega
    obtain rfl : M = [] := List.eq_nil_of_length_eq_zero hm
    obtain ⟨ap, cp, rfl, -⟩ := Sl.val (Sl.ofOwn ho)
    exact ⟨ap, _, cp, w, run_append_owned_none (P := Try.prog) (w := w) B 34 ty 27 i0 3 Try.underlying34 hi _ _ _ ho, by simpa using ho, World.grownBy.refl _ _, .inl rfl⟩
  | some ad =>
    obtain ⟨v', w', hr, ho', hg, -, hat⟩ := run_append_own_at (P := Try.prog) w B 34 ty 27 i0 _ 3 24 Try.underlying34 hi hz0 hz1 hz2 rfl (by decide) v h.length (h.flatMap tmL) ho ad M.length c (M.flatMap tmL) (tmL_len M)
      (fun j u hu => by
        obtain ⟨b, off, he, hc⟩ := h5 j u hu
        simp only [Option.some.injEq] at he
        subst he
        rw [Addr.add_lit]
        exact hc) (fun u hu => by
        obtain ⟨t, _, ht⟩ := List.mem_flatMap.1 hu
        exact tmA_one t u ht) (by unfold maxLen; omega) (by omega) hB
    have ho2 : OwnT w' B v' (h ++ M) := by
      unfold OwnT
      rw [List.length_append, List.flatMap_append]
      exact ho'
    obtain ⟨ap, cp, rfl, -⟩ := Sl.val (Sl.ofOwn ho2)
    exact ⟨ap, _, cp, w', hr, ho2, hg, hat⟩
theorem exec_build0 {w : World} {a : Act} {op : Oper} (ho : op.op = .buildSlice 34 0 #[]) : (execOp a.eval op).run Try.prog w = .ok (.value (.slice (some ⟨w.heap.size, 0, none⟩) 0 0)) (w.alloc (.cells #[] 27)) := by
  obtain ⟨i0, hi, hz0, hz1, hz2⟩ := info_parts' infoTm
  unfold execOp
  simp [ho, Instr.buildSlice, run_underlying Try.underlying34, Go.sizeOf, typeInfo, hi, Instr.fill, newRow]
  congr 2
  exact Array.eq_empty_of_size_eq_zero (by simp)
theorem own0 {w : World} {B : Nat} (hB : B ≤ w.heap.size) : OwnT (w.alloc (.cells #[] 27)) B (.slice (some ⟨w.heap.size, 0, none⟩) 0 0) [] :=
  ⟨rfl, .inr ⟨_, 0, #[], rfl, hB, Blk.new w #[] 27, Nat.le_refl _, by simp [maxLen], rfl, rfl⟩⟩
theorem exec_slice_h {X : World} {a : Act} {op : Oper} {x l : Operand} (ho : op.op = .slice 34 x none (some l) none) {p : Option Addr} {n cap k : Nat} (hx : a.eval x = .slice p n cap) (hl : a.eval l = .int .i64 (k : Int)) (hk : k ≤ cap) {v : Value} (hv : v = sliced p 0 k cap 3) : (execOp a.eval op).run Try.prog X = .ok (.value v) X := by
  unfold execOp
  have e := run_slice_h (P := Try.prog) X 34 p n cap Try.underlying34 .i64 (k : Int) (by omega) (by omega)
  have e1 := run_sliceAt_slice (P := Try.prog) X 34 (.slice p n cap) none (some (.int .i64 (k : Int))) none Try.underlying34
  have es : (Go.sizeOf (Program.elem Try.prog 34)).run Try.prog X = .ok 3 X := by kernel_rfl
  rw [es] at e
  subst hv
  simp only [ho, hx, Option.map_some, Option.map_none, hl, Sem.run_bind, e1, e, Result.andThen_ok, Sem.run_pure, Int.toNat_natCast]
theorem exec_slice_l {X : World} {a : Act} {op : Oper} {x l : Operand} (ho : op.op = .slice 34 x (some l) none none) {p : Option Addr} {n cap k : Nat} (hx : a.eval x = .slice p n cap) (hl : a.eval l = .int .i64 (k : Int)) (hk : k ≤ n) {v : Value} (hv : v = sliced p k n cap 3) : (execOp a.eval op).run Try.prog X = .ok (.value v) X := by
  unfold execOp
  have e := run_slice_l (P := Try.prog) X 34 p n cap Try.underlying34 .i64 (k : Int) (by omega) (by omega)
  have e1 := run_sliceAt_slice (P := Try.prog) X 34 (.slice p n cap) (some (.int .i64 (k : Int))) none none Try.underlying34
  have es : (Go.sizeOf (Program.elem Try.prog 34)).run Try.prog X = .ok 3 X := by kernel_rfl
  rw [es] at e
  subst hv
  simp only [ho, hx, Option.map_some, Option.map_none, hl, Sem.run_bind, e1, e, Result.andThen_ok, Sem.run_pure, Int.toNat_natCast]
/-- The queue's cell is written: the new row is of the call's own. -/
theorem RQ.put {B : Nat} {w W : World} {rb : Nat} {rv rv' : Value} {L L' : List Tm} (q : RQ B w rb rv L) (hM : Mod (fun _ => False) w W) (ho : OwnT W w.heap.size rv' L') : RC B w (W.setCell ⟨rb, 0, none⟩ rv') rb rv L L' := by
  have hrb := q.blk.lt
  have hb := q.b
  have h1 : Mod (fun k => k = rb) W (W.setCell ⟨rb, 0, none⟩ rv') := (Mod.refl (fun k => k = rb) _).setCell (p := ⟨rb, 0, none⟩) (fun _ => rfl) _
  have hlt : ∀ k, blockOf rv' = some k → w.heap.size ≤ k ∧ k < W.heap.size := fun k hk => ho.lt k (by
    cases rv' <;> simp [blockOf] at hk
    rename_i p _ _
    cases p <;> simp at hk
    simpa [Value.ownBlock] using hk)
  refine ⟨rv', ⟨q.b, (hM.blk q.blk (fun e => e)).set 0 rv', h1.sl ho.tmv (fun _ k hk e => by have := (hlt k hk).1; omega), fun _ k hk => by have := (hlt k hk).1; omega⟩, ?_, ?_⟩
  · rintro k (e | ⟨_, e⟩)
    · exact .inl (.inl e)
    · have := hlt k e
      have := h1.size
      exact .inr ⟨by omega, by omega⟩
  · exact (hM.mono (T := fun k => k = rb) (fun _ _ h => h.elim)).trans h1
theorem sorted_once : ∀ {L : List Tm}, SortedT L → ∀ {i j : Nat} {x : Tm}, L[i]? = some x → L[j]? = some x → i < j → False
  | [], _, _, _, _, h, _, _ => by simp at h
  | y :: L, hs, 0, 0, x, _, _, h => by omega
  | y :: L, hs, 0, j + 1, x, h1, h2, _ => by
    simp at h1 h2
    subst h1
    have := hs.1 _ (List.mem_of_getElem? h2)
    rw [ahd_irrefl] at this
    cases this
  | y :: L, hs, i + 1, 0, x, _, _, h => by omega
  | y :: L, hs, i + 1, j + 1, x, h1, h2, h => sorted_once hs.2 (i := i) (j := j) (x := x) (by simpa using h1) (by simpa using h2) (by omega)
theorem del_split {c k : Int} {L : List Tm} {i : Nat} {x : Tm} (hq : QL L) (ha : Away c k L i) (hx : L[i]? = some x) (hk : keyT x = (c, k)) : delT c k L = L.take i ++ L.drop (i + 1) := by
  have hi := (List.getElem?_eq_some_iff.1 hx).1
  have e : L = L.take i ++ x :: L.drop (i + 1) := by
    conv => lhs; rw [← List.take_append_drop i L]
    congr 1
    rw [List.drop_eq_getElem_cons hi]
    congr 1
    exact (List.getElem?_eq_some_iff.1 hx).2
  have h1 : delT c k (L.take i) = L.take i := delT_none (fun a h => by
    obtain ⟨j, hj⟩ := List.getElem?_of_mem h
    have hjl := (List.getElem?_eq_some_iff.1 hj).1
    rw [List.length_take] at hjl
    rw [List.getElem?_take_of_lt (by omega)] at hj
    exact ha j a (by omega) hj)
  have h2 : delT c k (L.drop (i + 1)) = L.drop (i + 1) := delT_none (fun a h hka => by
    obtain ⟨j, hj⟩ := List.getElem?_of_mem h
    rw [List.getElem?_drop] at hj
    have hu := hq.u x (List.mem_of_getElem? hx) a (List.mem_of_getElem? hj) (hk.trans hka.symm)
    subst hu
    exact sorted_once hq.s hx hj (by omega))
  conv => lhs; rw [e]
  unfold delT at h1 h2 ⊢
  rw [List.filter_append, h1, List.filter_cons]
  unfold keyT at hk
  simp only [Prod.mk.injEq] at hk
  rw [if_neg (by simp [hk.1, hk.2]), h2]
theorem CancelHas {c k : Int} {L : List Tm} {i : Nat} {x : Tm} (hx : L[i]? = some x) (hk : keyT x = (c, k)) : hasK c k L = true := has_iff.2 ⟨x, List.mem_of_getElem? hx, hk⟩
set_option maxHeartbeats 4000000 in
set_option maxRecDepth 10000 in
theorem rcancel_any {B : Nat} {w : World} {rb : Nat} {rv : Value} {L : List Tm} (c k : Int) (q : RQ B w rb rv L) (hq : QL L) :
    Calls Try.prog 20 #[.pointer (some ⟨rb, 0, none⟩), .int .i64 c, .int .i64 k] w fun e w' => e = .returned (.bool (hasK c k L)) ∧ RC B w w' rb rv L (delT c k L) := by
  obtain ⟨a, cap, rfl, hcap, -⟩ := q.val.val
  have c0 : w.cell? ⟨rb, 0, none⟩ = some (.slice a L.length cap) := q.blk.cellAt 0 rfl
  have HQ := Lib.hid q
  have HQL := Lib.hid hq
  have HQ0 := Lib.hid q
  obtain ⟨m, hm⟩ : ∃ m, m = L.length := ⟨_, rfl⟩
  rw [← hm] at c0 HQ hcap
  have HM := Lib.hid (And.intro hm hq.n)
  have HC := Lib.hid c0
  have m1 : (m : Int) ≤ 200 := by have := hq.n; omega
  have HCAP := Lib.hid hcap
  clear q hq hcap hm
  go_enter Try.func20, Try.ntmps20
  go_wp2_with fail
  go_loopw [7] (fun s7 wr => ∃ (i : Nat), s7 = .int .i64 (i : Int) ∧ i ≤ m ∧ w = wr ∧ Hid (Away c k L i)) (fun s7 _ => m - (match s7 with | .int _ z => z.toNat | _ => 0))
  case atStart => exact ⟨0, rfl, Nat.zero_le _, rfl, Lib.hid (Away.zero c k L)⟩
  case round =>
    obtain ⟨i, rfl, hi, rfl, HS⟩ := hrel
    have i0 : (0 : Int) ≤ (i : Int) := by omega
    have HI := Lib.hid hi
    by_cases hlt : i < m
    · have i1 : (i : Int) < (m : Int) := by omega
      obtain ⟨x, hx⟩ : ∃ x, L[i]? = some x := ⟨_, List.getElem?_eq_getElem (by have := HM.out.1; omega)⟩
      obtain ⟨b, off, cap2, hv, hr⟩ := HQ.out.val.at hx
      simp only [Value.slice.injEq] at hv
      obtain ⟨rfl, -, rfl⟩ := hv
      have d1 : w.cell? ⟨b, off + i * 3 + 1, none⟩ = some (.int .i64 x.c) := hr 1 _ rfl
      have d2 : w.cell? ⟨b, off + i * 3 + 2, none⟩ = some (.int .i64 x.k) := hr 2 _ rfl
      have HX := Lib.hid hx
      have HII := Lib.hid hlt
      clear hr hx hi hlt
      by_cases h1 : x.c = c
      · by_cases h2 : x.k = k
        · have hkey : keyT x = (c, k) := by unfold keyT; rw [h1, h2]
          have HE : Hid (hasK c k L = true ∧ delT c k L = L.take i ++ L.drop (i + 1)) := Lib.hid ⟨CancelHas HX.out hkey, del_split HQL.out HS.out HX.out hkey⟩
          have q1 : (x.c == c) = true := by simp [h1]
          have q2 : (x.k == k) = true := by simp [h2]
          obtain ⟨a1, n1, c1, e1⟩ : ∃ a1 n1 c1, Value.slice a1 n1 c1 = sliced (some ⟨b, off, none⟩) 0 i cap 3 := ⟨_, _, _, rfl⟩
          obtain ⟨a2, n2, c2, e2⟩ : ∃ a1 n1 c1, Value.slice a1 n1 c1 = sliced (some ⟨b, off, none⟩) (i + 1) m cap 3 := ⟨_, _, _, rfl⟩
          have HS1 : Hid (TmV w (.slice a1 n1 c1) (L.take i)) := Lib.hid (by rw [e1]; exact TmV.take HQ.out.val HM.out.1 (by have := HII.out; omega))
          have HS2 : Hid (TmV w (.slice a2 n2 c2) (L.drop (i + 1))) := Lib.hid (by rw [e2]; exact TmV.drop HQ.out.val HM.out.1 (by have := HII.out; omega))
          have HE1 := Lib.hid e1
          have HE2 := Lib.hid e2
          have HW : Hid (IntKind.i64.wrap ((i : Int) + 1) = ((i + 1 : Nat) : Int)) := Lib.hid (by rw [IntWalk.i64_in _ (by omega)]; omega)
          clear h1 h2 hkey e1 e2
          go_upto_region 5 with fail
          refine wp_region_last (S := fun X => Mod (fun _ => False) w X) 19 (by kernel_rfl) (Mod.refl _ _).drew (fun hS => ?_)
          generalize w.drew = W0 at *
          refine' takeL (i := 0) (v := _) (some 39) rfl rfl (by kernel_rfl) (by kernel_rfl) (by kernel_rfl) (by kernel_rfl) (fun _ _ _ h => h) (Or.inl ⟨by rfl, fun X hX => ?_⟩) hS ?_
          rotate_left
          · go_simp; exact rfl
          (try go_frame)
          refine' takeL (i := 2) (v := _) (some 41) rfl rfl (by kernel_rfl) (by kernel_rfl) (by kernel_rfl) (by kernel_rfl) (fun _ _ _ h => h) (Or.inl ⟨by rfl, fun X hX => ?_⟩) hS ?_
          rotate_left
          · go_simp; exact rfl
          (try go_frame)
          refine' takeL (i := 3) (v := _) (some 42) rfl rfl (by kernel_rfl) (by kernel_rfl) (by kernel_rfl) (by kernel_rfl) (fun _ _ _ h => h) (Or.inl ⟨by rfl, fun X hX => ?_⟩) hS ?_
          rotate_left
          · go_simp; exact rfl
          (try go_frame)
          refine' takeL (i := 4) (v := _) (some 43) rfl rfl (by kernel_rfl) (by kernel_rfl) (by kernel_rfl) (by kernel_rfl) (fun _ _ _ h => h) (Or.inl ⟨by rfl, fun X hX => ?_⟩) hS ?_
          rotate_left
          · go_simp; exact rfl
          (try go_frame)
          refine' takeL (i := 5) (v := _) (some 44) rfl rfl (by kernel_rfl) (by kernel_rfl) (by kernel_rfl) (by kernel_rfl) (fun _ _ _ h => h) (Or.inl ⟨by rfl, fun X hX => ?_⟩) hS ?_
          rotate_left
          · have c := hX.cellAt HC.out (fun e => e); go_simp; exact rfl
          (try go_frame)
          refine' takeL (i := 6) (v := _) (some 45) rfl rfl (by kernel_rfl) (by kernel_rfl) (by kernel_rfl) (by kernel_rfl) (fun _ _ _ h => h) (Or.inl ⟨by rfl, fun X hX => ?_⟩) hS ?_
          rotate_left
          · go_simp; exact rfl
          (try go_frame)
          refine takeL (i := 7) (v := .slice a1 n1 c1) (some 46) rfl rfl (by kernel_rfl) (by kernel_rfl) (by kernel_rfl) (by kernel_rfl) (fun _ _ _ h => h) (Or.inl ⟨by rfl, fun X hX => ?_⟩) hS ?_
          · exact exec_slice_h (x := .tmp 44) (l := .tmp 45) (k := i) rfl rfl rfl (by have := HII.out; have := HCAP.out; omega) HE1.out
          (try go_frame)
          refine' takeL (i := 9) (v := _) (some 48) rfl rfl (by kernel_rfl) (by kernel_rfl) (by kernel_rfl) (by kernel_rfl) (fun _ _ _ h => h) (Or.inl ⟨by rfl, fun X hX => ?_⟩) hS ?_
          rotate_left
          · go_simp; exact rfl
          (try go_frame)
          refine' takeL (i := 10) (v := _) (some 49) rfl rfl (by kernel_rfl) (by kernel_rfl) (by kernel_rfl) (by kernel_rfl) (fun _ _ _ h => h) (Or.inl ⟨by rfl, fun X hX => ?_⟩) hS ?_
          rotate_left
          · go_simp; exact rfl
          (try go_frame)
          refine' takeL (i := 11) (v := _) (some 50) rfl rfl (by kernel_rfl) (by kernel_rfl) (by kernel_rfl) (by kernel_rfl) (fun _ _ _ h => h) (Or.inl ⟨by rfl, fun X hX => ?_⟩) hS ?_
          rotate_left
          · go_simp; exact rfl
          (try go_frame)
          refine' takeL (i := 12) (v := _) (some 51) rfl rfl (by kernel_rfl) (by kernel_rfl) (by kernel_rfl) (by kernel_rfl) (fun _ _ _ h => h) (Or.inl ⟨by rfl, fun X hX => ?_⟩) hS ?_
          rotate_left
          · have c := hX.cellAt HC.out (fun e => e); go_simp; exact rfl
          (try go_frame)
          refine' takeL (i := 13) (v := _) (some 52) rfl rfl (by kernel_rfl) (by kernel_rfl) (by kernel_rfl) (by kernel_rfl) (fun _ _ _ h => h) (Or.inl ⟨by rfl, fun X hX => ?_⟩) hS ?_
          rotate_left
          · go_simp; exact rfl
          (try go_frame)
          refine' takeL (i := 14) (v := _) (some 53) rfl rfl (by kernel_rfl) (by kernel_rfl) (by kernel_rfl) (by kernel_rfl) (fun _ _ _ h => h) (Or.inl ⟨by rfl, fun X hX => ?_⟩) hS ?_
          rotate_left
          · go_simp; rw [HW.out]
          (try go_frame)
          refine takeL (i := 15) (v := .slice a2 n2 c2) (some 54) rfl rfl (by kernel_rfl) (by kernel_rfl) (by kernel_rfl) (by kernel_rfl) (fun _ _ _ h => h) (Or.inl ⟨by rfl, fun X hX => ?_⟩) hS ?_
          · exact exec_slice_l (x := .tmp 51) (l := .tmp 53) (k := i + 1) rfl rfl rfl (by have := HII.out; omega) HE2.out
          (try go_frame)
          refine wpAnyL.ready (rs := [1]) (by kernel_rfl) (by simp) ?_
          refine (AllReadyL.cons (o := ⟨some 40, _, _, _, _, none⟩) rfl (by decide) (fun K hK => ?_) AllReadyL.nil)
          have hWS : w.heap.size ≤ W0.heap.size := hS.size
          have ho0 := own0 hWS
          refine step_run rfl (exec_build0 rfl) ?_
          refine hK.out _ _ (hS.alloc _) (fun hS => ?_)
          clear hK K
          have hWS := hS.size
          generalize W0.alloc (.cells #[] 27) = W1 at *
          (try go_frame)
          refine wpAnyL.ready (rs := [8]) (by kernel_rfl) (by simp) ?_
          refine (AllReadyL.cons (o := ⟨some 47, _, _, _, _, none⟩) rfl (by decide) (fun K hK => ?_) AllReadyL.nil)
          obtain ⟨p1, s1, k1, W2, hr, ho1, hg, -⟩ := OwnT.appendL ho0 (HS1.out.kept hS) (by have := HM.out; simp only [List.length_take, List.length_nil]; omega) hWS 34
          have hM2 : Mod (fun k => w.heap.size ≤ k) W1 W2 := (Mod.refl _ _).grown hg (fun k hk _ => (ho0.lt k hk).1)
          refine step_run rfl (exec_append (s := .tmp 40) (x := .tmp 46) rfl rfl rfl hr) ?_
          refine hK.out _ _ (hS.trans' hM2 (fun k hk e => by omega)) (fun hS => ?_)
          clear hK K hr hg
          have hWS := hS.size
          (try go_frame)
          refine wpAnyL.ready (rs := [16]) (by kernel_rfl) (by simp) ?_
          refine (AllReadyL.cons (o := ⟨some 55, _, _, _, _, none⟩) rfl (by decide) (fun K hK => ?_) AllReadyL.nil)
          obtain ⟨p2, s2, k2, W3, hr, ho2, hg, -⟩ := OwnT.appendL ho1 (HS2.out.kept hS) (by have := HM.out; simp only [List.nil_append, List.length_take, List.length_drop]; omega) hWS 34
          have hM2 : Mod (fun k => w.heap.size ≤ k) W2 W3 := (Mod.refl _ _).grown hg (fun k hk _ => (ho1.lt k hk).1)
          refine step_run rfl (exec_append (s := .tmp 47) (x := .tmp 54) rfl rfl rfl hr) ?_
          refine hK.out _ _ (hS.trans' hM2 (fun k hk e => by omega)) (fun hS => ?_)
          clear hK K hr hg
          have hWS := hS.size
          (try go_frame)
          refine' takeL (i := 17) (v := _) (some 56) rfl rfl (by kernel_rfl) (by kernel_rfl) (by kernel_rfl) (by kernel_rfl) (fun _ _ _ h => h) (Or.inl ⟨by rfl, fun X hX => ?_⟩) hS ?_
          rotate_left
          · go_simp; exact rfl
          (try go_frame)
          refine' takeL (i := 18) (v := _) (some 57) rfl rfl (by kernel_rfl) (by kernel_rfl) (by kernel_rfl) (by kernel_rfl) (fun _ _ _ h => h) (Or.inl ⟨by rfl, fun X hX => ?_⟩) hS ?_
          rotate_left
          · go_simp; exact rfl
          (try go_frame)
          refine wpAnyL.ready (rs := [19]) (by kernel_rfl) (by simp) ?_
          refine AllReadyL.closing (o := ⟨none, _, _, _, _, none⟩) rfl (fun K hK => ?_)
          have HO2 := Lib.hid ho2
          have e0 : W3.cell? ⟨rb, 0, none⟩ = some (.slice (some ⟨b, off, none⟩) m cap) := hS.cellAt HC.out (fun e => e)
          have e1 : W3.frozen? ⟨rb, 0, none⟩ = false := (hS.blk HQ.out.blk (fun e => e)).free 0
          go_simp
          refine hK.out _ _ ?_
          clear hK K e0 e1
          refine wpAnyL.done (by kernel_rfl) ?_ _
          have HR := Lib.hid (HQ0.out.put hS HO2.out)
          clear hS
          generalize W3.setCell ⟨rb, 0, none⟩ (.slice p2 s2 k2) = W9 at *
          go_wp2_with fail
          go_ret
          refine ⟨by rw [HE.out.1]; rfl, ?_⟩
          rw [HE.out.2]
          have := HR.out
          rw [← HM.out.1] at this
          exact this
        · have HE := Lib.hid (HS.out.next HX.out (.inr h2))
          have q1 : (x.c == c) = true := by simp [h1]
          have q2 : (x.k == k) = false := by simp [h2]
          clear h1 h2
          go_wp2_with fail
          go_roundw
          case rel => exact ⟨i + 1, by go_num, by have := HII.out; omega, trivial, HE⟩
          case measure => have := HII.out; simp; omega
      · have HE := Lib.hid (HS.out.next HX.out (.inl h1))
        have q1 : (x.c == c) = false := by simp [h1]
        clear h1
        go_wp2_with fail
        go_roundw
        case rel => exact ⟨i + 1, by go_num, by have := HII.out; omega, trivial, HE⟩
        case measure => have := HII.out; simp; omega
    · have i1 : ¬ (i : Int) < (m : Int) := by omega
      have hno := HS.out.all (by have := HM.out.1; omega)
      have HE : Hid (hasK c k L = false ∧ delT c k L = L) := Lib.hid ⟨has_no.2 hno, delT_none hno⟩
      clear hlt hi hno
      go_wp2_with fail
      go_ret
      refine ⟨by rw [HE.out.1]; rfl, ?_⟩
      rw [HE.out.2]
      exact ⟨_, HQ0.out, fun k hk => .inl hk, Mod.refl _ _⟩
end Go.Proofs.Ytodcadcapmhgfaa
