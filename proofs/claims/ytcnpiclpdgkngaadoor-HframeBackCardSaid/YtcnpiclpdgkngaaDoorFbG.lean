/- Fields that came in; whether they are great; whether two lists of fields are the same. (printed by genfbg.py) -/
import Derived.Test.YtcnpiclpdgkngaaDoorFbC
import Derived.Test.YtcnpiclpdgkngaaDoorFaN
import Derived.Test.YtcnpiclpdgkngaaDoorFaQ
namespace Go.Proofs.YtcnpiclpdgkngaaDoor
open Go.Joins Go.ChangeShapes Go.WideShapes Go.RowKit Go.Deep

theorem mem_all {H : Type} {P : Program} {e : TypeId} {d : DataW H} {n : Nat} : ∀ {l : List (DataW H)}, d ∈ l → n ∈ d.weights P e → n ∈ DataW.weightsAll P e l
  | x :: l, h, hn => by
    rw [DataW.weightsAll]
    rcases List.mem_cons.1 h with rfl | h
    · exact List.mem_append.2 (.inl hn)
    · exact List.mem_append.2 (.inr (mem_all h hn))
/-- Fields no longer than a machine's memory. -/
def FdsMem (l : List Fd) : Prop := ∀ f ∈ l, (f.n.length : Int) ≤ 140737488351232 ∧ (f.v.length : Int) ≤ 140737488351232
theorem open_flds {H : Type} {enc : TypeId × Value → H} {W : World} {ts : List TypeId} {ds : List (DataW H)} {j : Nat} {v : Value} {d : DataW H} {p : List MemPlace} {base : Nat}
    (hsz : (DataW.weightsEach Tryd.prog ts ds).all (· ≤ reachBytes) = true) (ht : ts[j]? = some 38) (hd : ds[j]? = some d)
    (hval : Value.okWide Tryd.prog W .any base 38 v) (h : DataW.Trod enc Tryd.prog W 0 (fun _ => true) true 38 v d p) : ∃ l : List Fd, FldV W v l ∧ FdsMem l := by
  obtain ⟨a0, len, cap, rfl⟩ := okWide_slice Tryd.underlying38 hval
  obtain ⟨fuel, hf⟩ := h
  rcases open_slice_pairs Tryd.underlying38 Tryd.underlying52 (by kernel_rfl) rfl rfl (by kernel_rfl) (by kernel_rfl) hf with ⟨hcs, _⟩ | ⟨a, len', cap', m, n, V0, V1, D0, D1, P0, P1, hcs, _, hl, hm, hmm, hxx, hx⟩
  · simp [Value.cells] at hcs
    obtain ⟨rfl, rfl, rfl⟩ := hcs
    exact ⟨[], Sl.nil _ _, fun f hf => by simp at hf⟩
  · simp [Value.cells] at hcs
    obtain ⟨rfl, rfl, rfl⟩ := hcs
    simp only [Prod.mk.injEq] at hxx
    obtain ⟨rfl, _⟩ := hxx
    have hmm' : m = cap := by simpa using hmm
    have hw : ∀ i, i < len → ∀ k ∈ (DataW.agg [D0 i, D1 i]).weights Tryd.prog 52, k ≤ reachBytes := by
      intro i hi k hk
      have hin : (DataW.agg [D0 i, D1 i] : DataW H) ∈ ((List.range len).map fun i => DataW.agg [D0 i, D1 i]) := List.mem_map.2 ⟨i, List.mem_range.2 hi, rfl⟩
      have h1 := mem_all (P := Tryd.prog) hin hk
      have := List.all_eq_true.1 hsz k (DataW.weights_mem_each ht hd k (by rw [DataW.weights, Tryd.underlying38]; exact List.mem_cons_of_mem _ (List.mem_append.2 (.inl h1))))
      simpa using this
    have each : ∀ i, i < len → ∃ s : Fd, (W.cell? (a.add (i * 2)) = some (strV s.n) ∧ W.cell? (a.add (i * 2 + 1)) = some (strV s.v)) ∧ (s.n.length : Int) ≤ 140737488351232 ∧ (s.v.length : Int) ≤ 140737488351232 := by
      intro i hi
      obtain ⟨c0, c1, t0, t1⟩ := hx i (by omega)
      obtain ⟨s0, e0, y0, _⟩ := DataW.trod_string Tryd.underlying9 t0
      obtain ⟨s1, e1, y1, _⟩ := DataW.trod_string Tryd.underlying9 t1
      simp only [Prod.mk.injEq] at y0 y1
      have hwi := hw i hi
      rw [y0.1, y1.1] at hwi
      have k0 := hwi s0.data.toList.length (by rw [DataW.weights, Tryd.underlying52]; simp [DataW.weightsEach, DataW.weights])
      have k1 := hwi s1.data.toList.length (by rw [DataW.weights, Tryd.underlying52]; simp [DataW.weightsEach, DataW.weights])
      refine ⟨⟨s0.data.toList, s1.data.toList⟩, ⟨?_, ?_⟩, ?_, ?_⟩
      · rw [c0]; simpa [strV] using e0
      · rw [c1]; simpa [strV] using e1
      · unfold reachBytes at k0; simp only; omega
      · unfold reachBytes at k1; simp only; omega
    obtain ⟨l, hll, hq⟩ := list_of len _ each
    refine ⟨l, ?_, ?_⟩
    · have := sl_pairs (W := W) (a := a) (fun s : Fd => strV s.n) (fun s => strV s.v) l hll hl hm (fun i s hs => (hq i s hs).1)
      unfold FldV
      rw [hll]
      exact this
    · intro f hf
      obtain ⟨i, hi⟩ := List.mem_iff_getElem?.1 hf
      exact (hq i f hi).2
def GreatR (w : World) (l : List Fd) : Ending → World → Prop := fun e w' => ∃ g, e = .returned (.bool g) ∧ (g = false → FdsOk l ∧ (l.length : Int) ≤ 200) ∧ Mod (fun _ => False) w w'
set_option maxHeartbeats 4000000 in
set_option maxRecDepth 10000 in
theorem great_any {w : World} {v : Value} {l : List Fd} (hv : FldV w v l) (hb : FdsMem l) :
    Calls Tryd.prog 21 #[v] w (GreatR w l) := by
  have HV := Lib.hid hv
  have HB := Lib.hid hb
  obtain ⟨a, cap, rfl, hcap, _⟩ := fld_val hv
  obtain ⟨n, hnn⟩ : ∃ n, n = l.length := ⟨_, rfl⟩
  rw [← hnn] at hcap ⊢
  have HN := Lib.hid hnn
  have hnc : (n : Int) ≤ cap := by omega
  clear hv hb hcap hnn
  go_enter Tryd.func21, Tryd.ntmps21
  go_wp2
  go_loopw [3, 4] (fun s3 s4 wr => ∃ (k : Nat) (x : Int), k ≤ n ∧ s4 = .int .i64 k ∧ s3 = .int .i64 x ∧ (n : Int) ≤ x ∧ Mod (fun _ => False) w wr ∧ Hid (∀ i f, i < k → l[i]? = some f → ((f.n.length : Int) + f.v.length) / 20 ≤ x)) (fun _ s4 _ => n - (intOf s4).toNat)
  case atStart => exact ⟨0, n, Nat.zero_le _, rfl, rfl, Int.le_refl _, Mod.refl _ _, by show ∀ i f, _; intro i f hi; omega⟩
  case round =>
    obtain ⟨k, x, hk, rfl, rfl, hnx, hM, HJ⟩ := hrel
    have HMr := Lib.hid hM
    clear hM
    by_cases hkn : (k : Int) < n
    · by_cases hx5 : x < 500
      · have hkl : k < l.length := by have := HN.out; omega
        have hs : l[k]? = some l[k] := List.getElem?_eq_getElem hkl
        generalize l[k] = s at hs
        obtain ⟨b, off, cp, hv, _, _, hcs⟩ := fld_addr HV.out (by rintro rfl; simp at hkl)
        simp only [Value.slice.injEq] at hv
        obtain ⟨rfl, _, rfl⟩ := hv
        obtain ⟨g0, g1⟩ := hcs k s hs
        have g0' := HMr.out.drew.cellAt g0 (fun h => h)
        have g1' := HMr.out.drew.cellAt g1 (fun h => h)
        have HS := Lib.hid hs
        have hmem := HB.out s (List.mem_of_getElem? hs)
        have hs1 := str_size s.n
        have hs2 := str_size s.v
        clear g0 g1 hs hcs hkl
        unfold strV at *
        generalize (ByteArray.mk s.n.toArray) = s1 at *
        generalize (ByteArray.mk s.v.toArray) = s2 at *
        obtain ⟨hm1, hm2⟩ := hmem
        generalize hn1 : s.n.length = n1 at *
        generalize hn2 : s.v.length = n2 at *
        have HN1 := Lib.hid hn1
        have HN2 := Lib.hid hn2
        clear hn1 hn2
        obtain ⟨q, hq⟩ : ∃ q : Int, q = ((n1 : Int) + n2) / 20 := ⟨_, rfl⟩
        have hq0 : 0 ≤ q := by omega
        have hq1 : q ≤ 140737488351232 := by omega
        have w1 : IntKind.i64.wrap ((n1 : Int) + n2) = (n1 : Int) + n2 := IntWalk.i64_in _ (by omega)
        have w2 : IntKind.i64.wrap (x + q) = x + q := IntWalk.i64_in _ (by omega)
        have w3 : IntKind.i64.wrap (((n1 : Int) + n2).tdiv 20) = q := by
          rw [Int.tdiv_eq_ediv_of_nonneg (by omega), ← hq]
          exact IntWalk.i64_in _ (by omega)
        have HQ := Lib.hid hq
        clear hq
        go_wp2_with fail
        refine wp_region_held_drew (S := fun X => X.cell? ⟨b, off + k * 2, none⟩ = some (.string s1) ∧ X.cell? ⟨b, off + k * 2 + 1, none⟩ = some (.string s2)) (by kernel_rfl) ⟨g0', g1'⟩ (fun hS => ?_)
        refine wpAnyH_take (i := 0) (v := .int .i64 x) rfl (by kernel_rfl) (by kernel_rfl) (by kernel_rfl) (fun _ _ _ h => h) (Or.inl ⟨by rfl, fun X hX => ?_⟩) hS ?_
        · go_simp
        refine wpAnyH_take (i := 1) (v := .slice (some ⟨b, off, none⟩) n cap) rfl (by kernel_rfl) (by kernel_rfl) (by kernel_rfl) (fun _ _ _ h => h) (Or.inl ⟨by rfl, fun X hX => ?_⟩) hS ?_
        · go_simp
        refine wpAnyH_take (i := 2) (v := .int .i64 k) rfl (by kernel_rfl) (by kernel_rfl) (by kernel_rfl) (fun _ _ _ h => h) (Or.inl ⟨by rfl, fun X hX => ?_⟩) hS ?_
        · go_simp
        refine wpAnyH_take (i := 3) (v := .pointer (some ⟨b, off + k * 2, none⟩)) rfl (by kernel_rfl) (by kernel_rfl) (by kernel_rfl) (fun _ _ _ h => h) (Or.inl ⟨by rfl, fun X hX => ?_⟩) hS ?_
        · go_simp
        refine wpAnyH_take (i := 4) (v := .pointer (some ⟨b, off + k * 2, none⟩)) rfl (by kernel_rfl) (by kernel_rfl) (by kernel_rfl) (fun _ _ _ h => h) (Or.inl ⟨by rfl, fun X hX => ?_⟩) hS ?_
        · go_simp
        refine wpAnyH_take (i := 5) (v := .string s1) rfl (by kernel_rfl) (by kernel_rfl) (by kernel_rfl) (fun _ _ _ h => h) (Or.inl ⟨by rfl, fun X hX => ?_⟩) hS ?_
        · have := hX.1; go_simp
        refine wpAnyH_take (i := 6) (v := .int .i64 n1) rfl (by kernel_rfl) (by kernel_rfl) (by kernel_rfl) (fun _ _ _ h => h) (Or.inl ⟨by rfl, fun X hX => ?_⟩) hS ?_
        · go_simp
        refine wpAnyH_take (i := 7) (v := .slice (some ⟨b, off, none⟩) n cap) rfl (by kernel_rfl) (by kernel_rfl) (by kernel_rfl) (fun _ _ _ h => h) (Or.inl ⟨by rfl, fun X hX => ?_⟩) hS ?_
        · go_simp
        refine wpAnyH_take (i := 8) (v := .int .i64 k) rfl (by kernel_rfl) (by kernel_rfl) (by kernel_rfl) (fun _ _ _ h => h) (Or.inl ⟨by rfl, fun X hX => ?_⟩) hS ?_
        · go_simp
        refine wpAnyH_take (i := 9) (v := .pointer (some ⟨b, off + k * 2, none⟩)) rfl (by kernel_rfl) (by kernel_rfl) (by kernel_rfl) (fun _ _ _ h => h) (Or.inl ⟨by rfl, fun X hX => ?_⟩) hS ?_
        · go_simp
        refine wpAnyH_take (i := 10) (v := .pointer (some ⟨b, off + k * 2 + 1, none⟩)) rfl (by kernel_rfl) (by kernel_rfl) (by kernel_rfl) (fun _ _ _ h => h) (Or.inl ⟨by rfl, fun X hX => ?_⟩) hS ?_
        · go_simp
        refine wpAnyH_take (i := 11) (v := .string s2) rfl (by kernel_rfl) (by kernel_rfl) (by kernel_rfl) (fun _ _ _ h => h) (Or.inl ⟨by rfl, fun X hX => ?_⟩) hS ?_
        · have := hX.2; go_simp
        refine wpAnyH_take (i := 12) (v := .int .i64 n2) rfl (by kernel_rfl) (by kernel_rfl) (by kernel_rfl) (fun _ _ _ h => h) (Or.inl ⟨by rfl, fun X hX => ?_⟩) hS ?_
        · go_simp
        refine wpAnyH_take (i := 13) (v := .int .i64 ((n1 : Int) + n2)) rfl (by kernel_rfl) (by kernel_rfl) (by kernel_rfl) (fun _ _ _ h => h) (Or.inl ⟨by rfl, fun X hX => ?_⟩) hS ?_
        · go_simp
        refine wpAnyH_take (i := 14) (v := .int .i64 q) rfl (by kernel_rfl) (by kernel_rfl) (by kernel_rfl) (fun _ _ _ h => h) (Or.inl ⟨by rfl, fun X hX => ?_⟩) hS ?_
        · go_simp
        refine wpAnyH_take (i := 15) (v := .int .i64 (x + q)) rfl (by kernel_rfl) (by kernel_rfl) (by kernel_rfl) (fun _ _ _ h => h) (Or.inl ⟨by rfl, fun X hX => ?_⟩) hS ?_
        · go_simp
        refine wpAnyH_ready (rs := [16]) (by kernel_rfl) (by simp) ?_
        refine AllReadyH.cons rfl (fun K hK => ?_) AllReadyH.nil
        go_simp
        refine hK.out _ _ ⟨g0', g1'⟩ (fun hS => ?_)
        clear hK K
        refine wpAnyH_done (by kernel_rfl) ?_ _
        have HMd := Lib.hid (HMr.out.drew)
        clear hS w1 w2 w3
        go_simp
        go_wp2_with fail
        go_roundw
        case rel =>
          refine ⟨k + 1, x + q, by omega, by go_num, rfl, by omega, HMd.out, ?_⟩
          show ∀ i f, _
          intro i f hi hf
          by_cases hik : i < k
          · have := HJ.out i f hik hf; omega
          · obtain rfl : i = k := by omega
            rw [HS.out] at hf
            obtain rfl := Option.some.inj hf
            rw [HN1.out, HN2.out]
            have := HQ.out
            omega
        case measure => simp [intOf]; omega
      · go_wp2_with fail
        go_ret
        refine ⟨decide (200 < x), rfl, fun h => ?_, HMr.out⟩
        have h' : x ≤ 200 := by simpa using h
        omega
    · have hkn' : k = n := by omega
      go_wp2_with fail
      go_ret
      refine ⟨decide (200 < x), rfl, fun hg => ?_, HMr.out⟩
      have hg' : x ≤ 200 := by simpa using hg
      have hN := HN.out
      refine ⟨fun f hf => ?_, by omega⟩
      obtain ⟨i, hi⟩ := List.mem_iff_getElem?.1 hf
      have hil : i < l.length := (List.getElem?_eq_some_iff.1 hi).1
      have := HJ.out i f (by omega) hi
      omega

theorem fields52 : (Program.fieldsOf Tryd.prog 52).toList.map (fun f => (decide (f.name ≠ "_"), f.type, f.offset)) = [(true, 9, 0), (true, 9, 1)] := by kernel_rfl
theorem guard52 : Program.eqGuardType Tryd.prog (Program.depth Tryd.prog) 52 = false := by kernel_rfl
theorem under52 : Program.underlying Tryd.prog 52 = some (.struct (Program.fieldsOf Tryd.prog 52)) := by kernel_rfl
theorem stood52 : Program.stoodInHeld Tryd.prog 52 = false := by kernel_rfl
def fldA (s : Fd) : Array Value := #[strV s.n, strV s.v]
theorem partFld0 (w : World) (s : Fd) : (part 9 (fldA s) 0).run Tryd.prog w = .ok (strV s.n) w := by kernel_rfl
theorem partFld1 (w : World) (s : Fd) : (part 9 (fldA s) 1).run Tryd.prog w = .ok (strV s.v) w := by kernel_rfl
theorem eqStr (w : World) (d : Nat) (a b : List UInt8) : (Op.equalIn (d + 1) 9 (strV a) (strV b)).run Tryd.prog w = .ok (a == b) w := by
  unfold strV
  rw [run_equalIn_string w d 9 _ _ Tryd.underlying9, toList_mk, toList_mk]
theorem eqFld (w : World) (d : Nat) (s t : Fd) :
    (Op.equalIn (d + 3) 52 (.agg (fldA s)) (.agg (fldA t))).run Tryd.prog w = .ok (decide (s.n = t.n ∧ s.v = t.v)) w := by
  rw [run_equalIn_struct w (d + 2) 52 _ _ under52 stood52]
  obtain ⟨x0, x1, e, k0, k1⟩ := two49 fields52
  simp only [Prod.mk.injEq] at k0 k1
  obtain ⟨n0, t0, o0⟩ := k0
  obtain ⟨n1, t1, o1⟩ := k1
  rw [e]
  have s1 := eqFields_cons w (d + 2) (fldA s) (fldA t) x1 [] _ _ _ n1 (by rw [t1, o1]; exact partFld1 w s) (by rw [t1, o1]; exact partFld1 w t) (by rw [t1]; exact eqStr w (d + 1) s.v t.v) true (by simp [Op.eqFields])
  have s0 := eqFields_cons w (d + 2) (fldA s) (fldA t) x0 _ _ _ _ n0 (by rw [t0, o0]; exact partFld0 w s) (by rw [t0, o0]; exact partFld0 w t) (by rw [t0]; exact eqStr w (d + 1) s.n t.n) _ s1
  rw [s0]
  refine congrArg (fun b => (Result.ok b w : Result Bool)) ?_
  rw [Bool.eq_iff_iff]
  simp only [Bool.and_true, Bool.and_eq_true, beq_iff_eq, decide_eq_true_eq]
theorem fd_eq (s t : Fd) : s = t ↔ s.n = t.n ∧ s.v = t.v := by
  constructor
  · rintro rfl; exact ⟨rfl, rfl⟩
  · obtain ⟨a, b⟩ := s
    obtain ⟨c, d⟩ := t
    rintro ⟨rfl, rfl⟩; rfl
set_option maxRecDepth 20000 in
theorem fld_neq (w : World) (s t : Fd) : (binOp .neq 52 (.agg (fldA s)) (.agg (fldA t))).run Tryd.prog w = .ok (.bool (!decide (s.n = t.n ∧ s.v = t.v))) w := by
  rw [run_neq_struct, show (10000 : Nat) = 9997 + 3 from rfl, eqFld w 9997 s t]
  rfl
set_option maxHeartbeats 2000000 in
set_option maxRecDepth 10000 in
/-- Lists that are the same are said to be. -/
theorem list_any {w : World} {va vb : Value} {l : List Fd} (ha : FldV w va l) (hb : FldV w vb l) (hn : (l.length : Int) ≤ 100000) :
    Calls Tryd.prog 25 #[va, vb] w fun e w' => e = .returned (.bool true) ∧ Mod (fun _ => False) w w' := by
  have HA := Lib.hid ha
  have HB := Lib.hid hb
  obtain ⟨a, ca, rfl, hca, _⟩ := fld_val ha
  obtain ⟨b, cb, rfl, hcb, _⟩ := fld_val hb
  obtain ⟨n, hnn⟩ : ∃ n, n = l.length := ⟨_, rfl⟩
  rw [← hnn] at hn hca hcb ⊢
  have HN := Lib.hid hnn
  have hnc : (n : Int) ≤ ca := by omega
  have hmc : (n : Int) ≤ cb := by omega
  clear ha hb hca hcb hnn
  go_enter Tryd.func25, Tryd.ntmps25
  go_wp2
  go_loopw [5] (fun s5 wr => ∃ k : Nat, k ≤ n ∧ s5 = .int .i64 k ∧ Mod (fun _ => False) w wr) (fun s5 _ => n - (intOf s5).toNat)
  case atStart => exact ⟨0, Nat.zero_le _, rfl, Mod.refl _ _⟩
  case round =>
    obtain ⟨k, hk, rfl, hM⟩ := hrel
    have HMr := Lib.hid hM
    clear hM
    by_cases hkn : (k : Int) < n
    · have hkl : k < l.length := by have := HN.out; omega
      have hs : l[k]? = some l[k] := List.getElem?_eq_getElem hkl
      generalize l[k] = s at hs
      obtain ⟨ba, oa, cpa, hv, _, _, hcs⟩ := fld_addr HA.out (by rintro rfl; simp at hkl)
      simp only [Value.slice.injEq] at hv
      obtain ⟨rfl, _, rfl⟩ := hv
      obtain ⟨bb, ob, cpb, hv, _, _, hct⟩ := fld_addr HB.out (by rintro rfl; simp at hkl)
      simp only [Value.slice.injEq] at hv
      obtain ⟨rfl, _, rfl⟩ := hv
      obtain ⟨g0, g1⟩ := hcs k s hs
      obtain ⟨h0, h1⟩ := hct k s hs
      have g0' := HMr.out.drew.cellAt g0 (fun h => h)
      have g1' := HMr.out.drew.cellAt g1 (fun h => h)
      have h0' := HMr.out.drew.cellAt h0 (fun h => h)
      have h1' := HMr.out.drew.cellAt h1 (fun h => h)
      have HEQ := Lib.hid (fun X => fld_neq X s s)
      clear g0 g1 h0 h1 hs hcs hct hkl
      have e0 : (!decide (s.n = s.n ∧ s.v = s.v)) = false := by simp
      rw [e0] at HEQ
      clear e0
      unfold fldA strV at *
      generalize (ByteArray.mk s.n.toArray) = s1 at *
      generalize (ByteArray.mk s.v.toArray) = s2 at *
      go_wp2_with fail
      refine wp_region_held_drew (S := fun X => X.cell? ⟨ba, oa + k * 2, none⟩ = some (.string s1) ∧ X.cell? ⟨ba, oa + k * 2 + 1, none⟩ = some (.string s2) ∧ X.cell? ⟨bb, ob + k * 2, none⟩ = some (.string s1) ∧ X.cell? ⟨bb, ob + k * 2 + 1, none⟩ = some (.string s2)) (by kernel_rfl) ⟨g0', g1', h0', h1'⟩ (fun hS => ?_)
      refine wpAnyH_take (i := 0) (v := .slice (some ⟨ba, oa, none⟩) n ca) rfl (by kernel_rfl) (by kernel_rfl) (by kernel_rfl) (fun _ _ _ h => h) (Or.inl ⟨by rfl, fun X hX => ?_⟩) hS ?_
      · go_simp
      refine wpAnyH_take (i := 1) (v := .int .i64 k) rfl (by kernel_rfl) (by kernel_rfl) (by kernel_rfl) (fun _ _ _ h => h) (Or.inl ⟨by rfl, fun X hX => ?_⟩) hS ?_
      · go_simp
      refine wpAnyH_take (i := 2) (v := .pointer (some ⟨ba, oa + k * 2, none⟩)) rfl (by kernel_rfl) (by kernel_rfl) (by kernel_rfl) (fun _ _ _ h => h) (Or.inl ⟨by rfl, fun X hX => ?_⟩) hS ?_
      · go_simp
      refine wpAnyH_take (i := 3) (v := .agg #[.string s1, .string s2]) rfl (by kernel_rfl) (by kernel_rfl) (by kernel_rfl) (fun _ _ _ h => h) (Or.inl ⟨by rfl, fun X hX => ?_⟩) hS ?_
      · have x0 := hX.1; have x1 := hX.2.1; go_simp
      refine wpAnyH_take (i := 4) (v := .slice (some ⟨bb, ob, none⟩) n cb) rfl (by kernel_rfl) (by kernel_rfl) (by kernel_rfl) (fun _ _ _ h => h) (Or.inl ⟨by rfl, fun X hX => ?_⟩) hS ?_
      · go_simp
      refine wpAnyH_take (i := 5) (v := .int .i64 k) rfl (by kernel_rfl) (by kernel_rfl) (by kernel_rfl) (fun _ _ _ h => h) (Or.inl ⟨by rfl, fun X hX => ?_⟩) hS ?_
      · go_simp
      refine wpAnyH_take (i := 6) (v := .pointer (some ⟨bb, ob + k * 2, none⟩)) rfl (by kernel_rfl) (by kernel_rfl) (by kernel_rfl) (fun _ _ _ h => h) (Or.inl ⟨by rfl, fun X hX => ?_⟩) hS ?_
      · go_simp
      refine wpAnyH_take (i := 7) (v := .agg #[.string s1, .string s2]) rfl (by kernel_rfl) (by kernel_rfl) (by kernel_rfl) (fun _ _ _ h => h) (Or.inl ⟨by rfl, fun X hX => ?_⟩) hS ?_
      · have x0 := hX.2.2.1; have x1 := hX.2.2.2; go_simp
      refine wpAnyH_take (i := 8) (v := .bool false) rfl (by kernel_rfl) (by kernel_rfl) (by kernel_rfl) (fun _ _ _ h => h) (Or.inl ⟨by rfl, fun X hX => ?_⟩) hS ?_
      · refine exec_eq (X := #[.string s1, .string s2]) (Y := #[.string s1, .string s2]) rfl ?_ ?_ guard52 (HEQ.out X) <;> go_simp
      refine wpAnyH_done (by kernel_rfl) ?_ _
      go_simp
      have HMd := Lib.hid (HMr.out.drew)
      go_wp2_with fail
      go_roundw
      case rel => exact ⟨k + 1, by omega, by go_num, HMd.out⟩
      case measure => simp [intOf]; omega
    · have hkn' : k = n := by omega
      go_wp2
      go_ret
      exact ⟨rfl, HMr.out⟩
end Go.Proofs.YtcnpiclpdgkngaaDoor
