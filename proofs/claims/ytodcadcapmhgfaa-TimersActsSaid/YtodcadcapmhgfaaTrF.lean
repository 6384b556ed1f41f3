/- TimersActs' walk: the queue and the document's queue side by side. (printed by gentrf.py) -/
import Derived.Test.YtodcadcapmhgfaaTrE
import Derived.Test.YtodcadcapmhgfaaTlP
namespace Go.Proofs.Ytodcadcapmhgfaa
open Go.RowKit

theorem wpList_eqT {ops : Array Oper} {rest : List Oper} {op : Oper} {a : Act} {w : World} {Q : Exit → Act → World → Prop} (hg : op.guard = none) (x y : Operand) (t' : TypeId) (ho : op.op = .binOp .eql 27 x y t') (s t : Tm) (hx : a.eval x = .agg (tmA s)) (hy : a.eval y = .agg (tmA t))
    (h : wpList Try.prog ops Q rest (a.put op.dst (.bool (decide (s = t)))) w) : wpList Try.prog ops Q (op :: rest) a w := by
  refine wpList_plain hg fun K hK => ?_
  unfold Oper.wp
  rw [exec_eqT ho hx hy guardT (tm_eql w s t)]
  exact hK _ _ h
theorem nil_due (w : World) : Calls Try.prog 10 #[.pointer none, .int .u64 5] w fun e w' => e = .returned (.tuple #[.agg #[.int .u64 0, .int .i64 0, .int .i64 0], .bool false]) ∧ Mod (fun _ => False) w w' := due_nil w 5
theorem nil_set (w : World) : Calls Try.prog 11 #[.pointer none, .agg #[.int .u64 0, .int .i64 0, .int .i64 0]] w fun e w' => e = .returned (.bool false) ∧ Mod (fun _ => False) w w' := set_nil w tm0
theorem nil_next (w : World) : Calls Try.prog 16 #[.pointer none] w fun e w' => w = w' ∧ e = .returned (.int .u64 18446744073709551615) := next_nil w
theorem nil_at (w : World) (c k : Int) : Calls Try.prog 17 #[.pointer none, .int .i64 c, .int .i64 k] w fun e w' => w = w' ∧ e = .returned (.int .u64 18446744073709551615) := at_nil w c k
theorem actL_at : ∀ (l : List (Int × Tm)) (i : Nat) (x : Int × Tm), l[i]? = some x → ∀ j, j < 4 → (l.flatMap actL)[i * 4 + j]? = (actL x)[j]?
  | [], i, s, h, _, _ => by simp at h
  | x :: l, 0, s, h, j, hj => by
    simp at h
    subst h
    rw [List.flatMap_cons, Nat.zero_mul, Nat.zero_add, List.getElem?_append_left (by simpa [actL, tmL] using hj)]
  | x :: l, i + 1, s, h, j, hj => by
    have := actL_at l i s (by simpa using h) j hj
    rw [List.flatMap_cons, List.getElem?_append_right (by simp [actL, tmL]; omega), show (i + 1) * 4 + j - (actL x).length = i * 4 + j by simp [actL, tmL]; omega]
    exact this
theorem actL_len (l : List (Int × Tm)) : (l.flatMap actL).length = l.length * 4 := by
  induction l with
  | nil => rfl
  | cons x m ih => rw [List.flatMap_cons, List.length_append, ih, List.length_cons]; simp [actL, tmL]; omega
theorem act_at {w : World} {v : Value} {l : List (Int × Tm)} {i : Nat} {x : Int × Tm} (h : Sl w 4 v l.length (l.flatMap actL)) (hi : l[i]? = some x) : ∃ b off cap, v = .slice (some ⟨b, off, none⟩) l.length cap ∧ w.cell? ⟨b, off + i * 4, none⟩ = some (.int .i64 x.1) ∧ w.rangeAt b (off + i * 4 + 1) (tmL x.2) := by
  have hl := (List.getElem?_eq_some_iff.1 hi).1
  have hne : l.flatMap actL ≠ [] := by
    intro e
    have := actL_len l
    rw [e] at this
    simp at this
    omega
  obtain ⟨b, off, cap, hv, _, _, hc⟩ := Sl.addr h hne
  refine ⟨b, off, cap, hv, ?_, fun j u hu => ?_⟩
  · have := hc (i * 4 + 0) _ (actL_at l i x hi 0 (by decide))
    simpa [Nat.add_assoc] using this
  · have hj : j < 3 := by have := (List.getElem?_eq_some_iff.1 hu).1; simpa [tmL] using this
    have h2 : (actL x)[j + 1]? = some u := by simpa [actL] using hu
    have := hc (i * 4 + (j + 1)) u ((actL_at l i x hi (j + 1) (by omega)).trans h2)
    rw [show off + i * 4 + 1 + j = off + (i * 4 + (j + 1)) by omega]
    exact this
/-- Both queues, side by side; the blocks that are foreign to the queue: the document's, and one more. -/
def Both (W0 w : World) (qb mb N rb p : Nat) (rv : Value) (L : List Tm) (x : Tm) : Prop :=
  LQ W0 w qb mb N L (fun k => RF rb rv L k ∨ k = p) ∧ RQ W0.heap.size w rb rv L ∧ Blk w p (tmA x) 27 ∧ W0.heap.size ≤ p ∧ p ≠ rb
theorem Both.still {W0 w w' : World} {qb mb N rb p : Nat} {rv : Value} {L : List Tm} {x : Tm} (h : Both W0 w qb mb N rb p rv L x) (hM : Mod (fun _ => False) w w') : Both W0 w' qb mb N rb p rv L x :=
  ⟨h.1.still hM, h.2.1.still hM, hM.blk h.2.2.1 (fun e => e), h.2.2.2⟩
/-- Behind a call of the queue's. -/
def Half (W0 w : World) (qb mb N rb p : Nat) (rv : Value) (L L' : List Tm) (x : Tm) : Prop :=
  LQ W0 w qb mb N L' (fun k => RF rb rv L k ∨ k = p) ∧ RQ W0.heap.size w rb rv L ∧ Blk w p (tmA x) 27 ∧ W0.heap.size ≤ p ∧ p ≠ rb
theorem Both.half {W0 w w' : World} {qb mb N N' rb p : Nat} {rv : Value} {L L' : List Tm} {x : Tm} (h : Both W0 w qb mb N rb p rv L x) (hc : LC W0 w w' qb mb N' L' (fun k => RF rb rv L k ∨ k = p)) : Half W0 w' qb mb N' rb p rv L L' x :=
  ⟨hc.1, h.2.1.kept hc.2 (fun _ hk e => e (.inl hk)), hc.2.blk h.2.2.1 (fun e => e (.inr rfl)), h.2.2.2⟩
theorem Half.still {W0 w w' : World} {qb mb N rb p : Nat} {rv : Value} {L L' : List Tm} {x : Tm} (h : Half W0 w qb mb N rb p rv L L' x) (hM : Mod (fun _ => False) w w') : Half W0 w' qb mb N rb p rv L L' x :=
  ⟨h.1.still hM, h.2.1.still hM, hM.blk h.2.2.1 (fun e => e), h.2.2.2⟩
theorem Half.both {W0 w w' : World} {qb mb N rb p : Nat} {rv : Value} {L L' : List Tm} {x : Tm} (h : Half W0 w qb mb N rb p rv L L' x) (hc : RC W0.heap.size w w' rb rv L L') : ∃ rv', Both W0 w' qb mb N rb p rv' L' x := by
  obtain ⟨rv', h1, h2, h3⟩ := hc
  refine ⟨rv', h.1.move h3 (fun k hk => .inl (.inl hk)) (fun k hk => by rw [hk]; exact h.2.1.b) (fun k hk => ?_), h1, h3.blk h.2.2.1 h.2.2.2.2, h.2.2.2⟩
  rcases hk with e | e
  · rcases h2 k e with e | e
    · exact .inl (.inl e)
    · exact .inr e
  · exact .inl (.inr e)
theorem Both.more {W0 w : World} {qb mb N N' rb p : Nat} {rv : Value} {L : List Tm} {x : Tm} (h : Both W0 w qb mb N rb p rv L x) (hN : N ≤ N') : Both W0 w qb mb N' rb p rv L x := ⟨h.1.more hN, h.2⟩
theorem LQ.less {W0 w : World} {qb mb N : Nat} {L : List Tm} {F F' : Nat → Prop} (q : LQ W0 w qb mb N L F) (h : ∀ k, F' k → F k) : LQ W0 w qb mb N L F' :=
  q.fresh (Mod.refl _ _) (fun k hk => .inl (h k hk))
set_option maxHeartbeats 16000000 in
set_option maxRecDepth 10000 in
theorem acts_any {w : World} {v : Value} {l : List (Int × Tm)} (hv : Sl w 4 v l.length (l.flatMap actL)) (hok : ∀ a ∈ l, okAct a) :
    Calls Try.prog 3 #[v] w fun e w' => e = .returned (.bool true) ∧ Below w.heap.size w w' := by
  have HV := Lib.hid hv
  have HOK := Lib.hid hok
  obtain ⟨a, cap, rfl, hcap, hmax, -⟩ := hv.val
  obtain ⟨m, hm⟩ : ∃ m, m = l.length := ⟨_, rfl⟩
  rw [← hm] at HV hcap ⊢
  have HM := Lib.hid hm
  clear hv hok hm hcap hmax
  by_cases h300 : (300 : Int) < (m : Int)
  · go_enter Try.func3, Try.ntmps3
    go_wp2_with (first | (go_at_call 9; (with_reducible refine (alive_any _).mono ?_); rintro e w1 ⟨rfl, hM1⟩; have HM1 := Lib.hid hM1; clear hM1) | fail)
    go_ret
    exact ⟨rfl, HM1.out.below (Nat.le_refl _) (fun _ _ h => h.elim)⟩
  have hm300 : (m : Int) ≤ 300 := by omega
  clear h300
  go_enter Try.func3, Try.ntmps3
  go_wp2_with (first
    | (go_at_call 9; (with_reducible refine (alive_any _).mono ?_); rintro e w1 ⟨rfl, hM1⟩; have HM1 := Lib.hid hM1; clear hM1)
    | (go_at_call 10; (with_reducible refine (nil_due _).mono ?_); rintro e w2 ⟨rfl, hM2⟩; have HM2 := Lib.hid (HM1.out.trans hM2); clear hM2)
    | (go_at_call 11; (with_reducible refine (nil_set _).mono ?_); rintro e w3 ⟨rfl, hM3⟩; have HM3 := Lib.hid ((HM2.out.alloc _).trans hM3); clear hM3)
    | (go_at_call 12; (with_reducible refine (cancel_nil _ _ _).mono ?_); rintro e w4 ⟨rfl, rfl⟩)
    | (go_at_call 13; (with_reducible refine (drop_nil _ _).mono ?_); rintro e w4 ⟨rfl, rfl⟩)
    | (go_at_call 14; (with_reducible refine (len_nil _).mono ?_); rintro e w4 ⟨rfl, rfl⟩)
    | (go_at_call 15; (with_reducible refine (list_nil _).mono ?_); rintro e w4 ⟨rfl, rfl⟩)
    | (go_at_call 16; (with_reducible refine (nil_next _).mono ?_); rintro e w4 ⟨rfl, rfl⟩)
    | (go_at_call 17; (with_reducible refine (nil_at _ _ _).mono ?_); rintro e w4 ⟨rfl, rfl⟩)
    | (go_at_call 18; (with_reducible refine (lq_new w3).mono ?_); rintro e w4 ⟨qb, mb, rfl, hq4, hqb⟩; have HQ4 := Lib.hid hq4; clear hq4 hqb)
    | fail)
  have HST : Hid (LQ w3 (w4.alloc (.cells #[.slice none 0 0] 40)) qb mb 0 [] (RF w4.heap.size (.slice none 0 0) []) ∧ RQ w3.heap.size (w4.alloc (.cells #[.slice none 0 0] 40)) w4.heap.size (.slice none 0 0) []) := by
    have hb := Blk.new w4 #[.slice none 0 0] 40
    refine Lib.hid ⟨HQ4.out.fresh ((Mod.refl _ _).alloc _) (fun k hk => .inr ?_), ⟨HQ4.out.m.size, hb, Sl.nil _ _, fun h => absurd rfl h⟩⟩
    rcases hk with e | ⟨e, _⟩
    · subst e
      exact ⟨Nat.le_refl _, hb.lt⟩
    · exact absurd rfl e
  clear HQ4
  generalize w4.alloc (.cells #[.slice none 0 0] 40) = w5 at *
  generalize w4.heap.size = rb at *
  go_loopw [8] (fun s8 wr => ∃ (i : Nat), s8 = .int .i64 (i : Int) ∧ i ≤ m ∧ Hid (∃ rv L, LQ w3 wr qb mb (201000 * i) L (RF rb rv L) ∧ RQ w3.heap.size wr rb rv L)) (fun s8 _ => m - (match s8 with | .int _ z => z.toNat | _ => 0))
  case atStart => exact ⟨0, rfl, Nat.zero_le _, Lib.hid ⟨_, _, HST.out⟩⟩
  case round =>
    obtain ⟨i, rfl, hi, HS⟩ := hrel
    have i0 : (0 : Int) ≤ (i : Int) := by omega
    have HI := Lib.hid hi
    obtain ⟨rv, L, hlq, hrq⟩ := HS.out
    by_cases hlt : i < m
    · have i1 : (i : Int) < (m : Int) := by omega
      obtain ⟨x, hx⟩ : ∃ x, l[i]? = some x := ⟨_, List.getElem?_eq_getElem (by have := HM.out; omega)⟩
      have hvr : Sl wr 4 (.slice a m cap) l.length (l.flatMap actL) := by
        have h1 : Mod (fun _ => False) w wr := HM3.out.trans hlq.m
        have h2 := Sl.kept HV.out h1 (fun _ _ h => h)
        rw [← HM.out]
        exact h2
      obtain ⟨b, off, cap2, hv1, hc1, hr1⟩ := act_at hvr hx
      simp only [Value.slice.injEq] at hv1
      obtain ⟨rfl, -, -⟩ := hv1
      obtain ⟨z, t⟩ := x
      have HR1 : Hid (wr.rangeAt b (off + i * 4 + 1) (tmL t)) := Lib.hid hr1
      have HC1 : Hid (wr.cell? ⟨b, off + i * 4, none⟩ = some (.int .i64 z)) := Lib.hid hc1
      have HKT : Hid (okTm t) := Lib.hid (HOK.out _ (List.mem_of_getElem? hx))
      have HII := Lib.hid hlt
      have HLR := Lib.hid (And.intro hlq hrq)
      have HB9 : Hid (Blk (wr.alloc (.cells #[.int .u64 0, .int .i64 0, .int .i64 0] 27)) wr.heap.size #[.int .u64 0, .int .i64 0, .int .i64 0] 27) := Lib.hid (Blk.new _ _ _)
      clear hi hlt hx hvr hc1 hr1 hlq hrq
      go_upto_region 15 with (first
        | ((with_reducible refine wpList_load_tm ?_ (.tmp 67) ?_ b (off + i * 4 + 1) ?_ t HR1.out ?_); (· exact rfl); (· exact rfl); (· exact rfl))
        | ((with_reducible refine wpList_store_blk ?_ 27 (.tmp 9) (.tmp 68) ?_ wr.heap.size ?_ _ (tmA t) ?_ 27 HB9.out (size_tm t) ?_ (tmA_one t) ?_); (· exact rfl); (· exact rfl); (· exact rfl); (· exact rfl); (· exact rfl); intro w9 hB9 hM9; have H9 := Lib.hid (And.intro hB9 hM9); clear hB9 hM9)
        | fail)
      have hM9 : Mod (fun _ => False) wr w9 := ((Mod.refl (fun _ => False) wr).alloc _).trans' H9.out.2 (fun k hk e => by omega)
      have HMR : Hid (Mod (fun _ => False) wr w9) := Lib.hid hM9
      have HBO : Hid (Both w3 w9 qb mb (201000 * i) rb wr.heap.size rv L t) := Lib.hid (by
        have hl := HLR.out
        refine ⟨hl.1.fresh hM9 (fun k hk => ?_), hl.2.still hM9, H9.out.1, hl.1.m.size, fun e => by have := hl.2.blk.lt; omega⟩
        rcases hk with e | e
        · exact .inl e
        · exact .inr ⟨by omega, by have := H9.out.1.lt; omega⟩)
      have hk9 : w9.cell? ⟨b, off + i * 4, none⟩ = some (.int .i64 z) := hM9.cellAt HC1.out (fun e => e)
      have HN : Hid (201000 * i ≤ 1000000000 ∧ 201000 * i + 200000 ≤ 201000 * (i + 1)) := Lib.hid (by omega)
      clear hM9 HB9 H9 HS HLR
      generalize wr.heap.size = p9 at *
      by_cases z0 : z = 0
      · subst z0
        obtain ⟨sb, L2, hset⟩ : ∃ sb L2, setT t L = (sb, L2) := ⟨_, _, rfl⟩
        have HSET := Lib.hid hset
        clear hset
        have HNN : Hid (201000 * i + 1000 ≤ 201000 * (i + 1)) := Lib.hid (by omega)
        go_upto_region 18 with fail
        have HBD := Lib.hid (HBO.out.still ((Mod.refl (fun _ => False) w9).drew))
        refine wp_region_held_drew (S := fun X => X.rangeAt p9 0 (tmL t)) (by kernel_rfl) HBD.out.2.2.1.whole (fun hS => ?_)
        generalize w9.drew = V0 at *
        refine' takeH (i := 0) (v := _) (some 76) rfl rfl (by kernel_rfl) (by kernel_rfl) (by kernel_rfl) (fun _ _ _ h => h) (Or.inl ⟨by rfl, fun X hX => ?_⟩) hS ?_
        rotate_left
        · go_simp; exact rfl
        (try go_frame)
        refine takeH (i := 1) (v := .agg (tmA t)) (some 77) rfl rfl (by kernel_rfl) (by kernel_rfl) (by kernel_rfl) (fun _ _ _ h => h) (Or.inl ⟨by rfl, fun X hX => ?_⟩) hS ?_
        · exact exec_tm (x := .tmp 9) (g := p9) (o := 0) (t := t) rfl rfl (fun j u hu => hX j u hu)
        (try go_frame)
        refine takeH (i := 3) (v := .agg (tmA t)) (some 79) rfl rfl (by kernel_rfl) (by kernel_rfl) (by kernel_rfl) (fun _ _ _ h => h) (Or.inl ⟨by rfl, fun X hX => ?_⟩) hS ?_
        · exact exec_tm (x := .tmp 9) (g := p9) (o := 0) (t := t) rfl rfl (fun j u hu => hX j u hu)
        (try go_frame)
        refine wpAnyH_ready (rs := [2]) (by kernel_rfl) (by simp) ?_
        refine (AllReadyH.cons (o := ⟨some 78, _, _, _, _, none⟩) rfl (fun K hK => ?_) AllReadyH.nil)
        go_simp
        refine (lq_set t HBD.out.1 HKT.out HN.out.1 sb L2 HSET.out).mono ?_
        rintro e w10 ⟨rfl, hlc⟩
        have hha := HBD.out.half hlc
        refine hK.out _ _ hha.2.2.1.whole (fun hS => ?_)
        clear hK K hlc
        have HHA := Lib.hid hha
        clear hha
        (try go_frame)
        refine wpAnyH_ready (rs := [4]) (by kernel_rfl) (by simp) ?_
        refine (AllReadyH.cons (o := ⟨some 80, _, _, _, _, none⟩) rfl (fun K hK => ?_) AllReadyH.nil)
        go_simp
        refine (rset_any t HHA.out.2.1 HBD.out.1.l sb L2 HSET.out).mono ?_
        rintro e wN ⟨rfl, hrc⟩
        obtain ⟨rv2, hbo⟩ := HHA.out.both hrc
        refine hK.out _ _ hbo.2.2.1.whole (fun hS => ?_)
        clear hK K hrc
        (try go_frame)
        refine takeH (i := 5) (v := .bool true) (some 81) rfl rfl (by kernel_rfl) (by kernel_rfl) (by kernel_rfl) (fun _ _ _ h => h) (Or.inl ⟨by rfl, fun X hX => ?_⟩) hS ?_
        · go_simp
        (try go_frame)
        refine' takeH (i := 6) (v := _) (some 10) rfl rfl (by kernel_rfl) (by kernel_rfl) (by kernel_rfl) (fun _ _ _ h => h) (Or.inl ⟨by rfl, fun X hX => ?_⟩) hS ?_
        rotate_left
        · go_simp; exact rfl
        (try go_frame)
        refine wpAnyH_done (by kernel_rfl) ?_ _
        clear hS
        have HBB : Hid (Both w3 wN qb mb (201000 * (i + 1)) rb p9 rv2 L2 t) := Lib.hid (hbo.more HNN.out)
        clear hbo
        go_upto_region 27 with fail
        obtain ⟨a9, c9, rfl, -⟩ := HBB.out.2.1.val.val
        have HBY := Lib.hid (HBB.out.still ((Mod.refl (fun _ => False) _).drew))
        refine wp_region_held_drew (S := fun X => World.drew wN = X) (by kernel_rfl) rfl (fun hS => ?_)
        generalize World.drew wN = Y at *
        have HBQ := HBY
        have HCC : Hid (Y.cell? ⟨rb, 0, none⟩ = some (.slice a9 L2.length c9)) := Lib.hid (HBQ.out.2.1.blk.cellAt 0 rfl)
        have HP9 : Hid (Y.rangeAt p9 0 (tmL t)) := Lib.hid HBQ.out.2.2.1.whole
        refine' takeH (i := 0) (v := _) (some 129) rfl rfl (by kernel_rfl) (by kernel_rfl) (by kernel_rfl) (fun _ _ _ h => h) (Or.inl ⟨by rfl, fun X hX => ?_⟩) hS ?_
        rotate_left
        · go_simp; exact rfl
        (try go_frame)
        refine' takeH (i := 1) (v := _) (some 130) rfl rfl (by kernel_rfl) (by kernel_rfl) (by kernel_rfl) (fun _ _ _ h => h) (Or.inl ⟨by rfl, fun X hX => ?_⟩) hS ?_
        rotate_left
        · go_simp; exact rfl
        (try go_frame)
        refine' takeH (i := 2) (v := _) (some 131) rfl rfl (by kernel_rfl) (by kernel_rfl) (by kernel_rfl) (fun _ _ _ h => h) (Or.inl ⟨by rfl, fun X hX => ?_⟩) hS ?_
        rotate_left
        · go_simp; exact rfl
        (try go_frame)
        refine' takeH (i := 3) (v := _) (some 132) rfl rfl (by kernel_rfl) (by kernel_rfl) (by kernel_rfl) (fun _ _ _ h => h) (Or.inl ⟨by rfl, fun X hX => ?_⟩) hS ?_
        rotate_left
        · go_simp; exact rfl
        (try go_frame)
        refine wpAnyH_ready (rs := [4]) (by kernel_rfl) (by simp) ?_
        refine (AllReadyH.cons (o := ⟨some 133, _, _, _, _, some (2, false)⟩) rfl (fun K hK => ?_) AllReadyH.nil)
        go_simp
        refine (lq_next HBQ.out.1).mono ?_
        rintro e wq ⟨rfl, rfl⟩
        refine hK.out _ _ hS (fun hS => ?_)
        clear hK K
        (try go_frame)
        refine wpAnyH_ready (rs := [5]) (by kernel_rfl) (by simp) ?_
        refine (AllReadyH.cons (o := ⟨some 134, _, _, _, _, some (2, false)⟩) rfl (fun K hK => ?_) AllReadyH.nil)
        go_simp
        refine (rnext_any HBQ.out.2.1).mono ?_
        rintro e wq ⟨rfl, rfl⟩
        refine hK.out _ _ hS (fun hS => ?_)
        clear hK K
        (try go_frame)
        refine takeH (i := 6) (v := .bool false) (some 135) rfl rfl (by kernel_rfl) (by kernel_rfl) (by kernel_rfl) (fun _ _ _ h => h) (Or.inl ⟨by rfl, fun X hX => ?_⟩) hS ?_
        · go_simp
        (try go_frame)
        refine takeH (i := 7) (v := .bool false) (some 136) rfl rfl (by kernel_rfl) (by kernel_rfl) (by kernel_rfl) (fun _ _ _ h => h) (Or.inl ⟨by rfl, fun X hX => ?_⟩) hS ?_
        · go_simp
        (try go_frame)
        refine' takeH (i := 8) (v := _) (some 137) rfl rfl (by kernel_rfl) (by kernel_rfl) (by kernel_rfl) (fun _ _ _ h => h) (Or.inl ⟨by rfl, fun X hX => ?_⟩) hS ?_
        rotate_left
        · go_simp; exact rfl
        (try go_frame)
        refine' takeH (i := 9) (v := _) (some 138) rfl rfl (by kernel_rfl) (by kernel_rfl) (by kernel_rfl) (fun _ _ _ h => h) (Or.inl ⟨by rfl, fun X hX => ?_⟩) hS ?_
        rotate_left
        · go_simp; exact rfl
        (try go_frame)
        refine' takeH (i := 11) (v := _) (some 140) rfl rfl (by kernel_rfl) (by kernel_rfl) (by kernel_rfl) (fun _ _ _ h => h) (Or.inl ⟨by rfl, fun X hX => ?_⟩) hS ?_
        rotate_left
        · go_simp; exact rfl
        (try go_frame)
        refine' takeH (i := 12) (v := _) (some 141) rfl rfl (by kernel_rfl) (by kernel_rfl) (by kernel_rfl) (fun _ _ _ h => h) (Or.inl ⟨by rfl, fun X hX => ?_⟩) hS ?_
        rotate_left
        · have hX := (show Y = X from hX); subst hX; have c := HCC.out; go_simp; exact rfl
        (try go_frame)
        refine' takeH (i := 13) (v := _) (some 142) rfl rfl (by kernel_rfl) (by kernel_rfl) (by kernel_rfl) (fun _ _ _ h => h) (Or.inl ⟨by rfl, fun X hX => ?_⟩) hS ?_
        rotate_left
        · go_simp; exact rfl
        (try go_frame)
        refine wpAnyH_ready (rs := [10]) (by kernel_rfl) (by simp) ?_
        refine (AllReadyH.cons (o := ⟨some 139, _, _, _, _, some (8, false)⟩) rfl (fun K hK => ?_) AllReadyH.nil)
        go_simp
        refine (lq_len HBQ.out.1).mono ?_
        rintro e wq ⟨rfl, rfl⟩
        refine hK.out _ _ hS (fun hS => ?_)
        clear hK K
        (try go_frame)
        refine takeH (i := 14) (v := .bool false) (some 143) rfl rfl (by kernel_rfl) (by kernel_rfl) (by kernel_rfl) (fun _ _ _ h => h) (Or.inl ⟨by rfl, fun X hX => ?_⟩) hS ?_
        · go_simp
        (try go_frame)
        refine takeH (i := 15) (v := .bool false) (some 144) rfl rfl (by kernel_rfl) (by kernel_rfl) (by kernel_rfl) (fun _ _ _ h => h) (Or.inl ⟨by rfl, fun X hX => ?_⟩) hS ?_
        · go_simp
        (try go_frame)
        refine' takeH (i := 16) (v := _) (some 145) rfl rfl (by kernel_rfl) (by kernel_rfl) (by kernel_rfl) (fun _ _ _ h => h) (Or.inl ⟨by rfl, fun X hX => ?_⟩) hS ?_
        rotate_left
        · go_simp; exact rfl
        (try go_frame)
        refine' takeH (i := 17) (v := _) (some 146) rfl rfl (by kernel_rfl) (by kernel_rfl) (by kernel_rfl) (fun _ _ _ h => h) (Or.inl ⟨by rfl, fun X hX => ?_⟩) hS ?_
        rotate_left
        · go_simp; exact rfl
        (try go_frame)
        refine' takeH (i := 18) (v := _) (some 147) rfl rfl (by kernel_rfl) (by kernel_rfl) (by kernel_rfl) (fun _ _ _ h => h) (Or.inl ⟨by rfl, fun X hX => ?_⟩) hS ?_
        rotate_left
        · go_simp; exact rfl
        (try go_frame)
        refine' takeH (i := 19) (v := _) (some 148) rfl rfl (by kernel_rfl) (by kernel_rfl) (by kernel_rfl) (fun _ _ _ h => h) (Or.inl ⟨by rfl, fun X hX => ?_⟩) hS ?_
        rotate_left
        · have hX := (show Y = X from hX); subst hX; have c := HP9.out 1 _ rfl; go_simp; exact rfl
        (try go_frame)
        refine' takeH (i := 20) (v := _) (some 149) rfl rfl (by kernel_rfl) (by kernel_rfl) (by kernel_rfl) (fun _ _ _ h => h) (Or.inl ⟨by rfl, fun X hX => ?_⟩) hS ?_
        rotate_left
        · go_simp; exact rfl
        (try go_frame)
        refine' takeH (i := 21) (v := _) (some 150) rfl rfl (by kernel_rfl) (by kernel_rfl) (by kernel_rfl) (fun _ _ _ h => h) (Or.inl ⟨by rfl, fun X hX => ?_⟩) hS ?_
        rotate_left
        · have hX := (show Y = X from hX); subst hX; have c := HP9.out 2 _ rfl; go_simp; exact rfl
        (try go_frame)
        refine' takeH (i := 23) (v := _) (some 152) rfl rfl (by kernel_rfl) (by kernel_rfl) (by kernel_rfl) (fun _ _ _ h => h) (Or.inl ⟨by rfl, fun X hX => ?_⟩) hS ?_
        rotate_left
        · go_simp; exact rfl
        (try go_frame)
        refine' takeH (i := 24) (v := _) (some 153) rfl rfl (by kernel_rfl) (by kernel_rfl) (by kernel_rfl) (fun _ _ _ h => h) (Or.inl ⟨by rfl, fun X hX => ?_⟩) hS ?_
        rotate_left
        · have hX := (show Y = X from hX); subst hX; have c := HP9.out 1 _ rfl; go_simp; exact rfl
        (try go_frame)
        refine' takeH (i := 25) (v := _) (some 154) rfl rfl (by kernel_rfl) (by kernel_rfl) (by kernel_rfl) (fun _ _ _ h => h) (Or.inl ⟨by rfl, fun X hX => ?_⟩) hS ?_
        rotate_left
        · go_simp; exact rfl
        (try go_frame)
        refine' takeH (i := 26) (v := _) (some 155) rfl rfl (by kernel_rfl) (by kernel_rfl) (by kernel_rfl) (fun _ _ _ h => h) (Or.inl ⟨by rfl, fun X hX => ?_⟩) hS ?_
        rotate_left
        · have hX := (show Y = X from hX); subst hX; have c := HP9.out 2 _ rfl; go_simp; exact rfl
        (try go_frame)
        refine wpAnyH_ready (rs := [22]) (by kernel_rfl) (by simp) ?_
        refine (AllReadyH.cons (o := ⟨some 151, _, _, _, _, some (16, false)⟩) rfl (fun K hK => ?_) AllReadyH.nil)
        go_simp
        refine (lq_at t.c t.k HBQ.out.1 HKT.out.2).mono ?_
        rintro e wq ⟨rfl, rfl⟩
        refine hK.out _ _ hS (fun hS => ?_)
        clear hK K
        (try go_frame)
        refine wpAnyH_ready (rs := [27]) (by kernel_rfl) (by simp) ?_
        refine (AllReadyH.cons (o := ⟨some 156, _, _, _, _, some (16, false)⟩) rfl (fun K hK => ?_) AllReadyH.nil)
        go_simp
        refine (rat_any t.c t.k HBQ.out.2.1 HBQ.out.1.l).mono ?_
        rintro e wq ⟨rfl, rfl⟩
        refine hK.out _ _ hS (fun hS => ?_)
        clear hK K
        (try go_frame)
        refine takeH (i := 28) (v := .bool false) (some 157) rfl rfl (by kernel_rfl) (by kernel_rfl) (by kernel_rfl) (fun _ _ _ h => h) (Or.inl ⟨by rfl, fun X hX => ?_⟩) hS ?_
        · go_simp
        (try go_frame)
        refine takeH (i := 29) (v := .bool false) (some 158) rfl rfl (by kernel_rfl) (by kernel_rfl) (by kernel_rfl) (fun _ _ _ h => h) (Or.inl ⟨by rfl, fun X hX => ?_⟩) hS ?_
        · go_simp
        (try go_frame)
        refine wpAnyH_done (by kernel_rfl) ?_ _
        clear hS
        go_wp2_with fail
        go_roundw
        case rel => exact ⟨i + 1, by go_num, by have := HII.out; omega, Lib.hid ⟨_, _, HBQ.out.1.less (fun k hk => .inl hk), HBQ.out.2.1⟩⟩
        case measure => have := HII.out; simp; omega
      by_cases z1 : z = 1
      · subst z1
        obtain ⟨L2, hL2⟩ : ∃ L2, L2 = delT t.c t.k L := ⟨_, rfl⟩
        have HL2 := Lib.hid hL2
        clear hL2
        have HNN : Hid (201000 * i + 1000 ≤ 201000 * (i + 1)) := Lib.hid (by omega)
        go_upto_region 20 with fail
        have HBD := Lib.hid (HBO.out.still ((Mod.refl (fun _ => False) w9).drew))
        refine wp_region_held_drew (S := fun X => X.rangeAt p9 0 (tmL t)) (by kernel_rfl) HBD.out.2.2.1.whole (fun hS => ?_)
        generalize w9.drew = V0 at *
        refine' takeH (i := 0) (v := _) (some 84) rfl rfl (by kernel_rfl) (by kernel_rfl) (by kernel_rfl) (fun _ _ _ h => h) (Or.inl ⟨by rfl, fun X hX => ?_⟩) hS ?_
        rotate_left
        · go_simp; exact rfl
        (try go_frame)
        refine' takeH (i := 1) (v := _) (some 85) rfl rfl (by kernel_rfl) (by kernel_rfl) (by kernel_rfl) (fun _ _ _ h => h) (Or.inl ⟨by rfl, fun X hX => ?_⟩) hS ?_
        rotate_left
        · go_simp; exact rfl
        (try go_frame)
        refine' takeH (i := 2) (v := _) (some 86) rfl rfl (by kernel_rfl) (by kernel_rfl) (by kernel_rfl) (fun _ _ _ h => h) (Or.inl ⟨by rfl, fun X hX => ?_⟩) hS ?_
        rotate_left
        · have c := hX 1 _ rfl; go_simp; exact rfl
        (try go_frame)
        refine' takeH (i := 3) (v := _) (some 87) rfl rfl (by kernel_rfl) (by kernel_rfl) (by kernel_rfl) (fun _ _ _ h => h) (Or.inl ⟨by rfl, fun X hX => ?_⟩) hS ?_
        rotate_left
        · go_simp; exact rfl
        (try go_frame)
        refine' takeH (i := 4) (v := _) (some 88) rfl rfl (by kernel_rfl) (by kernel_rfl) (by kernel_rfl) (fun _ _ _ h => h) (Or.inl ⟨by rfl, fun X hX => ?_⟩) hS ?_
        rotate_left
        · have c := hX 2 _ rfl; go_simp; exact rfl
        (try go_frame)
        refine' takeH (i := 6) (v := _) (some 90) rfl rfl (by kernel_rfl) (by kernel_rfl) (by kernel_rfl) (fun _ _ _ h => h) (Or.inl ⟨by rfl, fun X hX => ?_⟩) hS ?_
        rotate_left
        · go_simp; exact rfl
        (try go_frame)
        refine' takeH (i := 7) (v := _) (some 91) rfl rfl (by kernel_rfl) (by kernel_rfl) (by kernel_rfl) (fun _ _ _ h => h) (Or.inl ⟨by rfl, fun X hX => ?_⟩) hS ?_
        rotate_left
        · have c := hX 1 _ rfl; go_simp; exact rfl
        (try go_frame)
        refine' takeH (i := 8) (v := _) (some 92) rfl rfl (by kernel_rfl) (by kernel_rfl) (by kernel_rfl) (fun _ _ _ h => h) (Or.inl ⟨by rfl, fun X hX => ?_⟩) hS ?_
        rotate_left
        · go_simp; exact rfl
        (try go_frame)
        refine' takeH (i := 9) (v := _) (some 93) rfl rfl (by kernel_rfl) (by kernel_rfl) (by kernel_rfl) (fun _ _ _ h => h) (Or.inl ⟨by rfl, fun X hX => ?_⟩) hS ?_
        rotate_left
        · have c := hX 2 _ rfl; go_simp; exact rfl
        (try go_frame)
        refine wpAnyH_ready (rs := [5]) (by kernel_rfl) (by simp) ?_
        refine (AllReadyH.cons (o := ⟨some 89, _, _, _, _, none⟩) rfl (fun K hK => ?_) AllReadyH.nil)
        go_simp
        refine (lq_cancel t.c t.k HBD.out.1 HKT.out.2 HN.out.1).mono ?_
        rintro e w10 ⟨rfl, hlc⟩
        have hha := HBD.out.half hlc
        refine hK.out _ _ hha.2.2.1.whole (fun hS => ?_)
        clear hK K hlc
        have HHA := Lib.hid hha
        clear hha
        (try go_frame)
        refine wpAnyH_ready (rs := [10]) (by kernel_rfl) (by simp) ?_
        refine (AllReadyH.cons (o := ⟨some 94, _, _, _, _, none⟩) rfl (fun K hK => ?_) AllReadyH.nil)
        go_simp
        refine (rcancel_any t.c t.k HHA.out.2.1 HBD.out.1.l).mono ?_
        rintro e wN ⟨rfl, hrc⟩
        obtain ⟨rv2, hbo⟩ := HHA.out.both hrc
        rw [← HL2.out] at hbo
        refine hK.out _ _ hbo.2.2.1.whole (fun hS => ?_)
        clear hK K hrc
        (try go_frame)
        refine takeH (i := 11) (v := .bool true) (some 95) rfl rfl (by kernel_rfl) (by kernel_rfl) (by kernel_rfl) (fun _ _ _ h => h) (Or.inl ⟨by rfl, fun X hX => ?_⟩) hS ?_
        · go_simp
        (try go_frame)
        refine' takeH (i := 12) (v := _) (some 10) rfl rfl (by kernel_rfl) (by kernel_rfl) (by kernel_rfl) (fun _ _ _ h => h) (Or.inl ⟨by rfl, fun X hX => ?_⟩) hS ?_
        rotate_left
        · go_simp; exact rfl
        (try go_frame)
        refine wpAnyH_done (by kernel_rfl) ?_ _
        clear hS
        have HBB : Hid (Both w3 wN qb mb (201000 * (i + 1)) rb p9 rv2 L2 t) := Lib.hid (hbo.more HNN.out)
        clear hbo
        go_upto_region 27 with fail
        obtain ⟨a9, c9, rfl, -⟩ := HBB.out.2.1.val.val
        have HBY := Lib.hid (HBB.out.still ((Mod.refl (fun _ => False) _).drew))
        refine wp_region_held_drew (S := fun X => World.drew wN = X) (by kernel_rfl) rfl (fun hS => ?_)
        generalize World.drew wN = Y at *
        have HBQ := HBY
        have HCC : Hid (Y.cell? ⟨rb, 0, none⟩ = some (.slice a9 L2.length c9)) := Lib.hid (HBQ.out.2.1.blk.cellAt 0 rfl)
        have HP9 : Hid (Y.rangeAt p9 0 (tmL t)) := Lib.hid HBQ.out.2.2.1.whole
        refine' takeH (i := 0) (v := _) (some 129) rfl rfl (by kernel_rfl) (by kernel_rfl) (by kernel_rfl) (fun _ _ _ h => h) (Or.inl ⟨by rfl, fun X hX => ?_⟩) hS ?_
        rotate_left
        · go_simp; exact rfl
        (try go_frame)
        refine' takeH (i := 1) (v := _) (some 130) rfl rfl (by kernel_rfl) (by kernel_rfl) (by kernel_rfl) (fun _ _ _ h => h) (Or.inl ⟨by rfl, fun X hX => ?_⟩) hS ?_
        rotate_left
        · go_simp; exact rfl
        (try go_frame)
        refine' takeH (i := 2) (v := _) (some 131) rfl rfl (by kernel_rfl) (by kernel_rfl) (by kernel_rfl) (fun _ _ _ h => h) (Or.inl ⟨by rfl, fun X hX => ?_⟩) hS ?_
        rotate_left
        · go_simp; exact rfl
        (try go_frame)
        refine' takeH (i := 3) (v := _) (some 132) rfl rfl (by kernel_rfl) (by kernel_rfl) (by kernel_rfl) (fun _ _ _ h => h) (Or.inl ⟨by rfl, fun X hX => ?_⟩) hS ?_
        rotate_left
        · go_simp; exact rfl
        (try go_frame)
        refine wpAnyH_ready (rs := [4]) (by kernel_rfl) (by simp) ?_
        refine (AllReadyH.cons (o := ⟨some 133, _, _, _, _, some (2, false)⟩) rfl (fun K hK => ?_) AllReadyH.nil)
        go_simp
        refine (lq_next HBQ.out.1).mono ?_
        rintro e wq ⟨rfl, rfl⟩
        refine hK.out _ _ hS (fun hS => ?_)
        clear hK K
        (try go_frame)
        refine wpAnyH_ready (rs := [5]) (by kernel_rfl) (by simp) ?_
        refine (AllReadyH.cons (o := ⟨some 134, _, _, _, _, some (2, false)⟩) rfl (fun K hK => ?_) AllReadyH.nil)
        go_simp
        refine (rnext_any HBQ.out.2.1).mono ?_
        rintro e wq ⟨rfl, rfl⟩
        refine hK.out _ _ hS (fun hS => ?_)
        clear hK K
        (try go_frame)
        refine takeH (i := 6) (v := .bool false) (some 135) rfl rfl (by kernel_rfl) (by kernel_rfl) (by kernel_rfl) (fun _ _ _ h => h) (Or.inl ⟨by rfl, fun X hX => ?_⟩) hS ?_
        · go_simp
        (try go_frame)
        refine takeH (i := 7) (v := .bool false) (some 136) rfl rfl (by kernel_rfl) (by kernel_rfl) (by kernel_rfl) (fun _ _ _ h => h) (Or.inl ⟨by rfl, fun X hX => ?_⟩) hS ?_
        · go_simp
        (try go_frame)
        refine' takeH (i := 8) (v := _) (some 137) rfl rfl (by kernel_rfl) (by kernel_rfl) (by kernel_rfl) (fun _ _ _ h => h) (Or.inl ⟨by rfl, fun X hX => ?_⟩) hS ?_
        rotate_left
        · go_simp; exact rfl
        (try go_frame)
        refine' takeH (i := 9) (v := _) (some 138) rfl rfl (by kernel_rfl) (by kernel_rfl) (by kernel_rfl) (fun _ _ _ h => h) (Or.inl ⟨by rfl, fun X hX => ?_⟩) hS ?_
        rotate_left
        · go_simp; exact rfl
        (try go_frame)
        refine' takeH (i := 11) (v := _) (some 140) rfl rfl (by kernel_rfl) (by kernel_rfl) (by kernel_rfl) (fun _ _ _ h => h) (Or.inl ⟨by rfl, fun X hX => ?_⟩) hS ?_
        rotate_left
        · go_simp; exact rfl
        (try go_frame)
        refine' takeH (i := 12) (v := _) (some 141) rfl rfl (by kernel_rfl) (by kernel_rfl) (by kernel_rfl) (fun _ _ _ h => h) (Or.inl ⟨by rfl, fun X hX => ?_⟩) hS ?_
        rotate_left
        · have hX := (show Y = X from hX); subst hX; have c := HCC.out; go_simp; exact rfl
        (try go_frame)
        refine' takeH (i := 13) (v := _) (some 142) rfl rfl (by kernel_rfl) (by kernel_rfl) (by kernel_rfl) (fun _ _ _ h => h) (Or.inl ⟨by rfl, fun X hX => ?_⟩) hS ?_
        rotate_left
        · go_simp; exact rfl
        (try go_frame)
        refine wpAnyH_ready (rs := [10]) (by kernel_rfl) (by simp) ?_
        refine (AllReadyH.cons (o := ⟨some 139, _, _, _, _, some (8, false)⟩) rfl (fun K hK => ?_) AllReadyH.nil)
        go_simp
        refine (lq_len HBQ.out.1).mono ?_
        rintro e wq ⟨rfl, rfl⟩
        refine hK.out _ _ hS (fun hS => ?_)
        clear hK K
        (try go_frame)
        refine takeH (i := 14) (v := .bool false) (some 143) rfl rfl (by kernel_rfl) (by kernel_rfl) (by kernel_rfl) (fun _ _ _ h => h) (Or.inl ⟨by rfl, fun X hX => ?_⟩) hS ?_
        · go_simp
        (try go_frame)
        refine takeH (i := 15) (v := .bool false) (some 144) rfl rfl (by kernel_rfl) (by kernel_rfl) (by kernel_rfl) (fun _ _ _ h => h) (Or.inl ⟨by rfl, fun X hX => ?_⟩) hS ?_
        · go_simp
        (try go_frame)
        refine' takeH (i := 16) (v := _) (some 145) rfl rfl (by kernel_rfl) (by kernel_rfl) (by kernel_rfl) (fun _ _ _ h => h) (Or.inl ⟨by rfl, fun X hX => ?_⟩) hS ?_
        rotate_left
        · go_simp; exact rfl
        (try go_frame)
        refine' takeH (i := 17) (v := _) (some 146) rfl rfl (by kernel_rfl) (by kernel_rfl) (by kernel_rfl) (fun _ _ _ h => h) (Or.inl ⟨by rfl, fun X hX => ?_⟩) hS ?_
        rotate_left
        · go_simp; exact rfl
        (try go_frame)
        refine' takeH (i := 18) (v := _) (some 147) rfl rfl (by kernel_rfl) (by kernel_rfl) (by kernel_rfl) (fun _ _ _ h => h) (Or.inl ⟨by rfl, fun X hX => ?_⟩) hS ?_
        rotate_left
        · go_simp; exact rfl
        (try go_frame)
        refine' takeH (i := 19) (v := _) (some 148) rfl rfl (by kernel_rfl) (by kernel_rfl) (by kernel_rfl) (fun _ _ _ h => h) (Or.inl ⟨by rfl, fun X hX => ?_⟩) hS ?_
        rotate_left
        · have hX := (show Y = X from hX); subst hX; have c := HP9.out 1 _ rfl; go_simp; exact rfl
        (try go_frame)
        refine' takeH (i := 20) (v := _) (some 149) rfl rfl (by kernel_rfl) (by kernel_rfl) (by kernel_rfl) (fun _ _ _ h => h) (Or.inl ⟨by rfl, fun X hX => ?_⟩) hS ?_
        rotate_left
        · go_simp; exact rfl
        (try go_frame)
        refine' takeH (i := 21) (v := _) (some 150) rfl rfl (by kernel_rfl) (by kernel_rfl) (by kernel_rfl) (fun _ _ _ h => h) (Or.inl ⟨by rfl, fun X hX => ?_⟩) hS ?_
        rotate_left
        · have hX := (show Y = X from hX); subst hX; have c := HP9.out 2 _ rfl; go_simp; exact rfl
        (try go_frame)
        refine' takeH (i := 23) (v := _) (some 152) rfl rfl (by kernel_rfl) (by kernel_rfl) (by kernel_rfl) (fun _ _ _ h => h) (Or.inl ⟨by rfl, fun X hX => ?_⟩) hS ?_
        rotate_left
        · go_simp; exact rfl
        (try go_frame)
        refine' takeH (i := 24) (v := _) (some 153) rfl rfl (by kernel_rfl) (by kernel_rfl) (by kernel_rfl) (fun _ _ _ h => h) (Or.inl ⟨by rfl, fun X hX => ?_⟩) hS ?_
        rotate_left
        · have hX := (show Y = X from hX); subst hX; have c := HP9.out 1 _ rfl; go_simp; exact rfl
        (try go_frame)
        refine' takeH (i := 25) (v := _) (some 154) rfl rfl (by kernel_rfl) (by kernel_rfl) (by kernel_rfl) (fun _ _ _ h => h) (Or.inl ⟨by rfl, fun X hX => ?_⟩) hS ?_
        rotate_left
        · go_simp; exact rfl
        (try go_frame)
        refine' takeH (i := 26) (v := _) (some 155) rfl rfl (by kernel_rfl) (by kernel_rfl) (by kernel_rfl) (fun _ _ _ h => h) (Or.inl ⟨by rfl, fun X hX => ?_⟩) hS ?_
        rotate_left
        · have hX := (show Y = X from hX); subst hX; have c := HP9.out 2 _ rfl; go_simp; exact rfl
        (try go_frame)
        refine wpAnyH_ready (rs := [22]) (by kernel_rfl) (by simp) ?_
        refine (AllReadyH.cons (o := ⟨some 151, _, _, _, _, some (16, false)⟩) rfl (fun K hK => ?_) AllReadyH.nil)
        go_simp
        refine (lq_at t.c t.k HBQ.out.1 HKT.out.2).mono ?_
        rintro e wq ⟨rfl, rfl⟩
        refine hK.out _ _ hS (fun hS => ?_)
        clear hK K
        (try go_frame)
        refine wpAnyH_ready (rs := [27]) (by kernel_rfl) (by simp) ?_
        refine (AllReadyH.cons (o := ⟨some 156, _, _, _, _, some (16, false)⟩) rfl (fun K hK => ?_) AllReadyH.nil)
        go_simp
        refine (rat_any t.c t.k HBQ.out.2.1 HBQ.out.1.l).mono ?_
        rintro e wq ⟨rfl, rfl⟩
        refine hK.out _ _ hS (fun hS => ?_)
        clear hK K
        (try go_frame)
        refine takeH (i := 28) (v := .bool false) (some 157) rfl rfl (by kernel_rfl) (by kernel_rfl) (by kernel_rfl) (fun _ _ _ h => h) (Or.inl ⟨by rfl, fun X hX => ?_⟩) hS ?_
        · go_simp
        (try go_frame)
        refine takeH (i := 29) (v := .bool false) (some 158) rfl rfl (by kernel_rfl) (by kernel_rfl) (by kernel_rfl) (fun _ _ _ h => h) (Or.inl ⟨by rfl, fun X hX => ?_⟩) hS ?_
        · go_simp
        (try go_frame)
        refine wpAnyH_done (by kernel_rfl) ?_ _
        clear hS
        go_wp2_with fail
        go_roundw
        case rel => exact ⟨i + 1, by go_num, by have := HII.out; omega, Lib.hid ⟨_, _, HBQ.out.1.less (fun k hk => .inl hk), HBQ.out.2.1⟩⟩
        case measure => have := HII.out; simp; omega
      by_cases z2 : z = 2
      · subst z2
        obtain ⟨L2, hL2⟩ : ∃ L2, L2 = dropL t.c L := ⟨_, rfl⟩
        have HL2 := Lib.hid hL2
        clear hL2
        have HNN : Hid (201000 * i + 200000 ≤ 201000 * (i + 1)) := Lib.hid (by omega)
        go_upto_region 22 with fail
        have HBD := Lib.hid (HBO.out.still ((Mod.refl (fun _ => False) w9).drew))
        refine wp_region_held_drew (S := fun X => X.rangeAt p9 0 (tmL t)) (by kernel_rfl) HBD.out.2.2.1.whole (fun hS => ?_)
        generalize w9.drew = V0 at *
        refine' takeH (i := 0) (v := _) (some 98) rfl rfl (by kernel_rfl) (by kernel_rfl) (by kernel_rfl) (fun _ _ _ h => h) (Or.inl ⟨by rfl, fun X hX => ?_⟩) hS ?_
        rotate_left
        · go_simp; exact rfl
        (try go_frame)
        refine' takeH (i := 1) (v := _) (some 99) rfl rfl (by kernel_rfl) (by kernel_rfl) (by kernel_rfl) (fun _ _ _ h => h) (Or.inl ⟨by rfl, fun X hX => ?_⟩) hS ?_
        rotate_left
        · go_simp; exact rfl
        (try go_frame)
        refine' takeH (i := 2) (v := _) (some 100) rfl rfl (by kernel_rfl) (by kernel_rfl) (by kernel_rfl) (fun _ _ _ h => h) (Or.inl ⟨by rfl, fun X hX => ?_⟩) hS ?_
        rotate_left
        · have c := hX 1 _ rfl; go_simp; exact rfl
        (try go_frame)
        refine' takeH (i := 4) (v := _) (some 102) rfl rfl (by kernel_rfl) (by kernel_rfl) (by kernel_rfl) (fun _ _ _ h => h) (Or.inl ⟨by rfl, fun X hX => ?_⟩) hS ?_
        rotate_left
        · go_simp; exact rfl
        (try go_frame)
        refine' takeH (i := 5) (v := _) (some 103) rfl rfl (by kernel_rfl) (by kernel_rfl) (by kernel_rfl) (fun _ _ _ h => h) (Or.inl ⟨by rfl, fun X hX => ?_⟩) hS ?_
        rotate_left
        · have c := hX 1 _ rfl; go_simp; exact rfl
        (try go_frame)
        refine wpAnyH_ready (rs := [3]) (by kernel_rfl) (by simp) ?_
        refine (AllReadyH.cons (o := ⟨some 101, _, _, _, _, none⟩) rfl (fun K hK => ?_) AllReadyH.nil)
        go_simp
        refine (lq_drop t.c HBD.out.1 HN.out.1).mono ?_
        rintro e w10 ⟨rfl, hlc⟩
        have hha := HBD.out.half hlc
        refine hK.out _ _ hha.2.2.1.whole (fun hS => ?_)
        clear hK K hlc
        have HHA := Lib.hid hha
        clear hha
        (try go_frame)
        refine wpAnyH_ready (rs := [6]) (by kernel_rfl) (by simp) ?_
        refine (AllReadyH.cons (o := ⟨some 104, _, _, _, _, none⟩) rfl (fun K hK => ?_) AllReadyH.nil)
        go_simp
        refine (rdrop_any t.c HHA.out.2.1 HBD.out.1.l).mono ?_
        rintro e wN ⟨rfl, hrc⟩
        obtain ⟨rv2, hbo⟩ := HHA.out.both hrc
        rw [← HL2.out] at hbo
        refine hK.out _ _ hbo.2.2.1.whole (fun hS => ?_)
        clear hK K hrc
        (try go_frame)
        refine takeH (i := 7) (v := .bool true) (some 105) rfl rfl (by kernel_rfl) (by kernel_rfl) (by kernel_rfl) (fun _ _ _ h => h) (Or.inl ⟨by rfl, fun X hX => ?_⟩) hS ?_
        · go_simp
        (try go_frame)
        refine' takeH (i := 8) (v := _) (some 10) rfl rfl (by kernel_rfl) (by kernel_rfl) (by kernel_rfl) (fun _ _ _ h => h) (Or.inl ⟨by rfl, fun X hX => ?_⟩) hS ?_
        rotate_left
        · go_simp; exact rfl
        (try go_frame)
        refine wpAnyH_done (by kernel_rfl) ?_ _
        clear hS
        have HBB : Hid (Both w3 wN qb mb (201000 * (i + 1)) rb p9 rv2 L2 t) := Lib.hid (hbo.more HNN.out)
        clear hbo
        go_upto_region 27 with fail
        obtain ⟨a9, c9, rfl, -⟩ := HBB.out.2.1.val.val
        have HBY := Lib.hid (HBB.out.still ((Mod.refl (fun _ => False) _).drew))
        refine wp_region_held_drew (S := fun X => World.drew wN = X) (by kernel_rfl) rfl (fun hS => ?_)
        generalize World.drew wN = Y at *
        have HBQ := HBY
        have HCC : Hid (Y.cell? ⟨rb, 0, none⟩ = some (.slice a9 L2.length c9)) := Lib.hid (HBQ.out.2.1.blk.cellAt 0 rfl)
        have HP9 : Hid (Y.rangeAt p9 0 (tmL t)) := Lib.hid HBQ.out.2.2.1.whole
        refine' takeH (i := 0) (v := _) (some 129) rfl rfl (by kernel_rfl) (by kernel_rfl) (by kernel_rfl) (fun _ _ _ h => h) (Or.inl ⟨by rfl, fun X hX => ?_⟩) hS ?_
        rotate_left
        · go_simp; exact rfl
        (try go_frame)
        refine' takeH (i := 1) (v := _) (some 130) rfl rfl (by kernel_rfl) (by kernel_rfl) (by kernel_rfl) (fun _ _ _ h => h) (Or.inl ⟨by rfl, fun X hX => ?_⟩) hS ?_
        rotate_left
        · go_simp; exact rfl
        (try go_frame)
        refine' takeH (i := 2) (v := _) (some 131) rfl rfl (by kernel_rfl) (by kernel_rfl) (by kernel_rfl) (fun _ _ _ h => h) (Or.inl ⟨by rfl, fun X hX => ?_⟩) hS ?_
        rotate_left
        · go_simp; exact rfl
        (try go_frame)
        refine' takeH (i := 3) (v := _) (some 132) rfl rfl (by kernel_rfl) (by kernel_rfl) (by kernel_rfl) (fun _ _ _ h => h) (Or.inl ⟨by rfl, fun X hX => ?_⟩) hS ?_
        rotate_left
        · go_simp; exact rfl
        (try go_frame)
        refine wpAnyH_ready (rs := [4]) (by kernel_rfl) (by simp) ?_
        refine (AllReadyH.cons (o := ⟨some 133, _, _, _, _, some (2, false)⟩) rfl (fun K hK => ?_) AllReadyH.nil)
        go_simp
        refine (lq_next HBQ.out.1).mono ?_
        rintro e wq ⟨rfl, rfl⟩
        refine hK.out _ _ hS (fun hS => ?_)
        clear hK K
        (try go_frame)
        refine wpAnyH_ready (rs := [5]) (by kernel_rfl) (by simp) ?_
        refine (AllReadyH.cons (o := ⟨some 134, _, _, _, _, some (2, false)⟩) rfl (fun K hK => ?_) AllReadyH.nil)
        go_simp
        refine (rnext_any HBQ.out.2.1).mono ?_
        rintro e wq ⟨rfl, rfl⟩
        refine hK.out _ _ hS (fun hS => ?_)
        clear hK K
        (try go_frame)
        refine takeH (i := 6) (v := .bool false) (some 135) rfl rfl (by kernel_rfl) (by kernel_rfl) (by kernel_rfl) (fun _ _ _ h => h) (Or.inl ⟨by rfl, fun X hX => ?_⟩) hS ?_
        · go_simp
        (try go_frame)
        refine takeH (i := 7) (v := .bool false) (some 136) rfl rfl (by kernel_rfl) (by kernel_rfl) (by kernel_rfl) (fun _ _ _ h => h) (Or.inl ⟨by rfl, fun X hX => ?_⟩) hS ?_
        · go_simp
        (try go_frame)
        refine' takeH (i := 8) (v := _) (some 137) rfl rfl (by kernel_rfl) (by kernel_rfl) (by kernel_rfl) (fun _ _ _ h => h) (Or.inl ⟨by rfl, fun X hX => ?_⟩) hS ?_
        rotate_left
        · go_simp; exact rfl
        (try go_frame)
        refine' takeH (i := 9) (v := _) (some 138) rfl rfl (by kernel_rfl) (by kernel_rfl) (by kernel_rfl) (fun _ _ _ h => h) (Or.inl ⟨by rfl, fun X hX => ?_⟩) hS ?_
        rotate_left
        · go_simp; exact rfl
        (try go_frame)
        refine' takeH (i := 11) (v := _) (some 140) rfl rfl (by kernel_rfl) (by kernel_rfl) (by kernel_rfl) (fun _ _ _ h => h) (Or.inl ⟨by rfl, fun X hX => ?_⟩) hS ?_
        rotate_left
        · go_simp; exact rfl
        (try go_frame)
        refine' takeH (i := 12) (v := _) (some 141) rfl rfl (by kernel_rfl) (by kernel_rfl) (by kernel_rfl) (fun _ _ _ h => h) (Or.inl ⟨by rfl, fun X hX => ?_⟩) hS ?_
        rotate_left
        · have hX := (show Y = X from hX); subst hX; have c := HCC.out; go_simp; exact rfl
        (try go_frame)
        refine' takeH (i := 13) (v := _) (some 142) rfl rfl (by kernel_rfl) (by kernel_rfl) (by kernel_rfl) (fun _ _ _ h => h) (Or.inl ⟨by rfl, fun X hX => ?_⟩) hS ?_
        rotate_left
        · go_simp; exact rfl
        (try go_frame)
        refine wpAnyH_ready (rs := [10]) (by kernel_rfl) (by simp) ?_
        refine (AllReadyH.cons (o := ⟨some 139, _, _, _, _, some (8, false)⟩) rfl (fun K hK => ?_) AllReadyH.nil)
        go_simp
        refine (lq_len HBQ.out.1).mono ?_
        rintro e wq ⟨rfl, rfl⟩
        refine hK.out _ _ hS (fun hS => ?_)
        clear hK K
        (try go_frame)
        refine takeH (i := 14) (v := .bool false) (some 143) rfl rfl (by kernel_rfl) (by kernel_rfl) (by kernel_rfl) (fun _ _ _ h => h) (Or.inl ⟨by rfl, fun X hX => ?_⟩) hS ?_
        · go_simp
        (try go_frame)
        refine takeH (i := 15) (v := .bool false) (some 144) rfl rfl (by kernel_rfl) (by kernel_rfl) (by kernel_rfl) (fun _ _ _ h => h) (Or.inl ⟨by rfl, fun X hX => ?_⟩) hS ?_
        · go_simp
        (try go_frame)
        refine' takeH (i := 16) (v := _) (some 145) rfl rfl (by kernel_rfl) (by kernel_rfl) (by kernel_rfl) (fun _ _ _ h => h) (Or.inl ⟨by rfl, fun X hX => ?_⟩) hS ?_
        rotate_left
        · go_simp; exact rfl
        (try go_frame)
        refine' takeH (i := 17) (v := _) (some 146) rfl rfl (by kernel_rfl) (by kernel_rfl) (by kernel_rfl) (fun _ _ _ h => h) (Or.inl ⟨by rfl, fun X hX => ?_⟩) hS ?_
        rotate_left
        · go_simp; exact rfl
        (try go_frame)
        refine' takeH (i := 18) (v := _) (some 147) rfl rfl (by kernel_rfl) (by kernel_rfl) (by kernel_rfl) (fun _ _ _ h => h) (Or.inl ⟨by rfl, fun X hX => ?_⟩) hS ?_
        rotate_left
        · go_simp; exact rfl
        (try go_frame)
        refine' takeH (i := 19) (v := _) (some 148) rfl rfl (by kernel_rfl) (by kernel_rfl) (by kernel_rfl) (fun _ _ _ h => h) (Or.inl ⟨by rfl, fun X hX => ?_⟩) hS ?_
        rotate_left
        · have hX := (show Y = X from hX); subst hX; have c := HP9.out 1 _ rfl; go_simp; exact rfl
        (try go_frame)
        refine' takeH (i := 20) (v := _) (some 149) rfl rfl (by kernel_rfl) (by kernel_rfl) (by kernel_rfl) (fun _ _ _ h => h) (Or.inl ⟨by rfl, fun X hX => ?_⟩) hS ?_
        rotate_left
        · go_simp; exact rfl
        (try go_frame)
        refine' takeH (i := 21) (v := _) (some 150) rfl rfl (by kernel_rfl) (by kernel_rfl) (by kernel_rfl) (fun _ _ _ h => h) (Or.inl ⟨by rfl, fun X hX => ?_⟩) hS ?_
        rotate_left
        · have hX := (show Y = X from hX); subst hX; have c := HP9.out 2 _ rfl; go_simp; exact rfl
        (try go_frame)
        refine' takeH (i := 23) (v := _) (some 152) rfl rfl (by kernel_rfl) (by kernel_rfl) (by kernel_rfl) (fun _ _ _ h => h) (Or.inl ⟨by rfl, fun X hX => ?_⟩) hS ?_
        rotate_left
        · go_simp; exact rfl
        (try go_frame)
        refine' takeH (i := 24) (v := _) (some 153) rfl rfl (by kernel_rfl) (by kernel_rfl) (by kernel_rfl) (fun _ _ _ h => h) (Or.inl ⟨by rfl, fun X hX => ?_⟩) hS ?_
        rotate_left
        · have hX := (show Y = X from hX); subst hX; have c := HP9.out 1 _ rfl; go_simp; exact rfl
        (try go_frame)
        refine' takeH (i := 25) (v := _) (some 154) rfl rfl (by kernel_rfl) (by kernel_rfl) (by kernel_rfl) (fun _ _ _ h => h) (Or.inl ⟨by rfl, fun X hX => ?_⟩) hS ?_
        rotate_left
        · go_simp; exact rfl
        (try go_frame)
        refine' takeH (i := 26) (v := _) (some 155) rfl rfl (by kernel_rfl) (by kernel_rfl) (by kernel_rfl) (fun _ _ _ h => h) (Or.inl ⟨by rfl, fun X hX => ?_⟩) hS ?_
        rotate_left
        · have hX := (show Y = X from hX); subst hX; have c := HP9.out 2 _ rfl; go_simp; exact rfl
        (try go_frame)
        refine wpAnyH_ready (rs := [22]) (by kernel_rfl) (by simp) ?_
        refine (AllReadyH.cons (o := ⟨some 151, _, _, _, _, some (16, false)⟩) rfl (fun K hK => ?_) AllReadyH.nil)
        go_simp
        refine (lq_at t.c t.k HBQ.out.1 HKT.out.2).mono ?_
        rintro e wq ⟨rfl, rfl⟩
        refine hK.out _ _ hS (fun hS => ?_)
        clear hK K
        (try go_frame)
        refine wpAnyH_ready (rs := [27]) (by kernel_rfl) (by simp) ?_
        refine (AllReadyH.cons (o := ⟨some 156, _, _, _, _, some (16, false)⟩) rfl (fun K hK => ?_) AllReadyH.nil)
        go_simp
        refine (rat_any t.c t.k HBQ.out.2.1 HBQ.out.1.l).mono ?_
        rintro e wq ⟨rfl, rfl⟩
        refine hK.out _ _ hS (fun hS => ?_)
        clear hK K
        (try go_frame)
        refine takeH (i := 28) (v := .bool false) (some 157) rfl rfl (by kernel_rfl) (by kernel_rfl) (by kernel_rfl) (fun _ _ _ h => h) (Or.inl ⟨by rfl, fun X hX => ?_⟩) hS ?_
        · go_simp
        (try go_frame)
        refine takeH (i := 29) (v := .bool false) (some 158) rfl rfl (by kernel_rfl) (by kernel_rfl) (by kernel_rfl) (fun _ _ _ h => h) (Or.inl ⟨by rfl, fun X hX => ?_⟩) hS ?_
        · go_simp
        (try go_frame)
        refine wpAnyH_done (by kernel_rfl) ?_ _
        clear hS
        go_wp2_with fail
        go_roundw
        case rel => exact ⟨i + 1, by go_num, by have := HII.out; omega, Lib.hid ⟨_, _, HBQ.out.1.less (fun k hk => .inl hk), HBQ.out.2.1⟩⟩
        case measure => have := HII.out; simp; omega
      by_cases z3 : z = 3
      · subst z3
        obtain ⟨o, L2, hdue⟩ : ∃ o L2, dueT t.t L = (o, L2) := ⟨_, _, rfl⟩
        have HDU := Lib.hid hdue
        clear hdue
        have HNN : Hid (201000 * i + 1000 ≤ 201000 * (i + 1)) := Lib.hid (by omega)
        have k9 : w9.cell? ⟨p9, 0, none⟩ = some (.int .u64 (t.t : Int)) := HBO.out.2.2.1.cellAt 0 rfl
        have HQD := Lib.hid HBO.out.1
        have HNA := Lib.hid HN.out.1
        obtain ⟨y, hy⟩ : ∃ y, y = o.getD tm0 := ⟨_, rfl⟩
        have HY := Lib.hid hy
        clear hy
        go_upto_region 25 with (first
          | (go_at_call 10; (with_reducible refine (lq_due t.t HQD.out HNA.out o L2 HDU.out).mono ?_); rintro e w10 ⟨rfl, hlc⟩; rw [← HY.out]; have HHA := Lib.hid (HBO.out.half hlc); have HB11 : Hid (Blk (w10.alloc (.cells #[.int .u64 0, .int .i64 0, .int .i64 0] 27)) w10.heap.size #[.int .u64 0, .int .i64 0, .int .i64 0] 27) := Lib.hid (Blk.new _ _ _); clear hlc)
          | ((with_reducible refine wpList_store_blk ?_ 27 (.tmp 11) (.tmp 113) ?_ w10.heap.size ?_ _ (tmA y) ?_ 27 HB11.out (size_tm y) ?_ (tmA_one y) ?_); (· exact rfl); (· exact rfl); (· exact rfl); (· exact rfl); (· exact rfl); intro w11 hB11 hM11; have H11 := Lib.hid (And.intro hB11 hM11); clear hB11 hM11)
          | fail)
        have hM11 : Mod (fun _ => False) w10 w11 := ((Mod.refl (fun _ => False) w10).alloc _).trans' H11.out.2 (fun k hk e => by omega)
        have HH11 := Lib.hid (HHA.out.still hM11)
        have HB11r : Hid (Blk w11 w10.heap.size (tmA y) 27 ∧ w10.heap.size ≠ rb) := Lib.hid ⟨H11.out.1, fun e => by have := HHA.out.2.1.blk.lt; omega⟩
        have k11 : w11.cell? ⟨p9, 0, none⟩ = some (.int .u64 (t.t : Int)) := HH11.out.2.2.1.cellAt 0 rfl
        have HRD := Lib.hid HH11.out.2.1
        clear hM11 HHA HB11 H11 k9
        generalize w10.heap.size = p11 at *
        go_upto_region 26 with (first
          | (go_at_call 22; (with_reducible refine (rdue_any t.t HRD.out).mono ?_); rintro e w12 ⟨rfl, hrc⟩; rw [HDU.out]; rw [← HY.out]; rw [HDU.out] at hrc; have HBB12 := Lib.hid (HH11.out.both hrc); have HB12 := Lib.hid (hrc.choose_spec.2.2.blk HB11r.out.1 HB11r.out.2); have HB13 : Hid (Blk (w12.alloc (.cells #[.int .u64 0, .int .i64 0, .int .i64 0] 27)) w12.heap.size #[.int .u64 0, .int .i64 0, .int .i64 0] 27) := Lib.hid (Blk.new _ _ _); clear hrc)
          | ((with_reducible refine wpList_store_blk ?_ 27 (.tmp 13) (.tmp 119) ?_ w12.heap.size ?_ _ (tmA y) ?_ 27 HB13.out (size_tm y) ?_ (tmA_one y) ?_); (· exact rfl); (· exact rfl); (· exact rfl); (· exact rfl); (· exact rfl); intro wN hB13 hM13; have H13 := Lib.hid (And.intro hB13 hM13); clear hB13 hM13)
          | fail)
        have hMN : Mod (fun _ => False) w12 wN := ((Mod.refl (fun _ => False) w12).alloc _).trans' H13.out.2 (fun k hk e => by omega)
        obtain ⟨rv2, hbo'⟩ := HBB12.out
        have hbo := hbo'.still hMN
        have HR11 : Hid (wN.rangeAt p11 0 (tmL y)) := Lib.hid (hMN.blk HB12.out (fun e => e)).whole
        have HR13 : Hid (wN.rangeAt w12.heap.size 0 (tmL y)) := Lib.hid H13.out.1.whole
        clear hMN hbo' HBB12 HB13 H13
        generalize w12.heap.size = p13 at *
        have HBB : Hid (Both w3 wN qb mb (201000 * (i + 1)) rb p9 rv2 L2 t) := Lib.hid (hbo.more HNN.out)
        clear hbo
        have HYY : Hid (decide (y = y) = true) := Lib.hid (by simp)
        go_upto_region 27 with (first
          | ((with_reducible refine wpList_load_tm ?_ (.tmp 11) ?_ p11 0 ?_ y HR11.out ?_); (· exact rfl); (· exact rfl); (· exact rfl))
          | ((with_reducible refine wpList_load_tm ?_ (.tmp 13) ?_ p13 0 ?_ y HR13.out ?_); (· exact rfl); (· exact rfl); (· exact rfl))
          | ((with_reducible refine wpList_eqT ?_ (.tmp 121) (.tmp 122) 27 ?_ y y ?_ ?_ ?_); (· exact rfl); (· exact rfl); (· exact rfl); (· exact rfl); rw [HYY.out])
          | fail)
        obtain ⟨a9, c9, rfl, -⟩ := HBB.out.2.1.val.val
        have HBY := Lib.hid (HBB.out.still ((Mod.refl (fun _ => False) _).drew))
        refine wp_region_held_drew (S := fun X => World.drew wN = X) (by kernel_rfl) rfl (fun hS => ?_)
        generalize World.drew wN = Y at *
        have HBQ := HBY
        have HCC : Hid (Y.cell? ⟨rb, 0, none⟩ = some (.slice a9 L2.length c9)) := Lib.hid (HBQ.out.2.1.blk.cellAt 0 rfl)
        have HP9 : Hid (Y.rangeAt p9 0 (tmL t)) := Lib.hid HBQ.out.2.2.1.whole
        refine' takeH (i := 0) (v := _) (some 129) rfl rfl (by kernel_rfl) (by kernel_rfl) (by kernel_rfl) (fun _ _ _ h => h) (Or.inl ⟨by rfl, fun X hX => ?_⟩) hS ?_
        rotate_left
        · go_simp; exact rfl
        (try go_frame)
        refine' takeH (i := 1) (v := _) (some 130) rfl rfl (by kernel_rfl) (by kernel_rfl) (by kernel_rfl) (fun _ _ _ h => h) (Or.inl ⟨by rfl, fun X hX => ?_⟩) hS ?_
        rotate_left
        · go_simp; exact rfl
        (try go_frame)
        refine' takeH (i := 2) (v := _) (some 131) rfl rfl (by kernel_rfl) (by kernel_rfl) (by kernel_rfl) (fun _ _ _ h => h) (Or.inl ⟨by rfl, fun X hX => ?_⟩) hS ?_
        rotate_left
        · go_simp; exact rfl
        (try go_frame)
        refine' takeH (i := 3) (v := _) (some 132) rfl rfl (by kernel_rfl) (by kernel_rfl) (by kernel_rfl) (fun _ _ _ h => h) (Or.inl ⟨by rfl, fun X hX => ?_⟩) hS ?_
        rotate_left
        · go_simp; exact rfl
        (try go_frame)
        refine wpAnyH_ready (rs := [4]) (by kernel_rfl) (by simp) ?_
        refine (AllReadyH.cons (o := ⟨some 133, _, _, _, _, some (2, false)⟩) rfl (fun K hK => ?_) AllReadyH.nil)
        go_simp
        refine (lq_next HBQ.out.1).mono ?_
        rintro e wq ⟨rfl, rfl⟩
        refine hK.out _ _ hS (fun hS => ?_)
        clear hK K
        (try go_frame)
        refine wpAnyH_ready (rs := [5]) (by kernel_rfl) (by simp) ?_
        refine (AllReadyH.cons (o := ⟨some 134, _, _, _, _, some (2, false)⟩) rfl (fun K hK => ?_) AllReadyH.nil)
        go_simp
        refine (rnext_any HBQ.out.2.1).mono ?_
        rintro e wq ⟨rfl, rfl⟩
        refine hK.out _ _ hS (fun hS => ?_)
        clear hK K
        (try go_frame)
        refine takeH (i := 6) (v := .bool false) (some 135) rfl rfl (by kernel_rfl) (by kernel_rfl) (by kernel_rfl) (fun _ _ _ h => h) (Or.inl ⟨by rfl, fun X hX => ?_⟩) hS ?_
        · go_simp
        (try go_frame)
        refine takeH (i := 7) (v := .bool false) (some 136) rfl rfl (by kernel_rfl) (by kernel_rfl) (by kernel_rfl) (fun _ _ _ h => h) (Or.inl ⟨by rfl, fun X hX => ?_⟩) hS ?_
        · go_simp
        (try go_frame)
        refine' takeH (i := 8) (v := _) (some 137) rfl rfl (by kernel_rfl) (by kernel_rfl) (by kernel_rfl) (fun _ _ _ h => h) (Or.inl ⟨by rfl, fun X hX => ?_⟩) hS ?_
        rotate_left
        · go_simp; exact rfl
        (try go_frame)
        refine' takeH (i := 9) (v := _) (some 138) rfl rfl (by kernel_rfl) (by kernel_rfl) (by kernel_rfl) (fun _ _ _ h => h) (Or.inl ⟨by rfl, fun X hX => ?_⟩) hS ?_
        rotate_left
        · go_simp; exact rfl
        (try go_frame)
        refine' takeH (i := 11) (v := _) (some 140) rfl rfl (by kernel_rfl) (by kernel_rfl) (by kernel_rfl) (fun _ _ _ h => h) (Or.inl ⟨by rfl, fun X hX => ?_⟩) hS ?_
        rotate_left
        · go_simp; exact rfl
        (try go_frame)
        refine' takeH (i := 12) (v := _) (some 141) rfl rfl (by kernel_rfl) (by kernel_rfl) (by kernel_rfl) (fun _ _ _ h => h) (Or.inl ⟨by rfl, fun X hX => ?_⟩) hS ?_
        rotate_left
        · have hX := (show Y = X from hX); subst hX; have c := HCC.out; go_simp; exact rfl
        (try go_frame)
        refine' takeH (i := 13) (v := _) (some 142) rfl rfl (by kernel_rfl) (by kernel_rfl) (by kernel_rfl) (fun _ _ _ h => h) (Or.inl ⟨by rfl, fun X hX => ?_⟩) hS ?_
        rotate_left
        · go_simp; exact rfl
        (try go_frame)
        refine wpAnyH_ready (rs := [10]) (by kernel_rfl) (by simp) ?_
        refine (AllReadyH.cons (o := ⟨some 139, _, _, _, _, some (8, false)⟩) rfl (fun K hK => ?_) AllReadyH.nil)
        go_simp
        refine (lq_len HBQ.out.1).mono ?_
        rintro e wq ⟨rfl, rfl⟩
        refine hK.out _ _ hS (fun hS => ?_)
        clear hK K
        (try go_frame)
        refine takeH (i := 14) (v := .bool false) (some 143) rfl rfl (by kernel_rfl) (by kernel_rfl) (by kernel_rfl) (fun _ _ _ h => h) (Or.inl ⟨by rfl, fun X hX => ?_⟩) hS ?_
        · go_simp
        (try go_frame)
        refine takeH (i := 15) (v := .bool false) (some 144) rfl rfl (by kernel_rfl) (by kernel_rfl) (by kernel_rfl) (fun _ _ _ h => h) (Or.inl ⟨by rfl, fun X hX => ?_⟩) hS ?_
        · go_simp
        (try go_frame)
        refine' takeH (i := 16) (v := _) (some 145) rfl rfl (by kernel_rfl) (by kernel_rfl) (by kernel_rfl) (fun _ _ _ h => h) (Or.inl ⟨by rfl, fun X hX => ?_⟩) hS ?_
        rotate_left
        · go_simp; exact rfl
        (try go_frame)
        refine' takeH (i := 17) (v := _) (some 146) rfl rfl (by kernel_rfl) (by kernel_rfl) (by kernel_rfl) (fun _ _ _ h => h) (Or.inl ⟨by rfl, fun X hX => ?_⟩) hS ?_
        rotate_left
        · go_simp; exact rfl
        (try go_frame)
        refine' takeH (i := 18) (v := _) (some 147) rfl rfl (by kernel_rfl) (by kernel_rfl) (by kernel_rfl) (fun _ _ _ h => h) (Or.inl ⟨by rfl, fun X hX => ?_⟩) hS ?_
        rotate_left
        · go_simp; exact rfl
        (try go_frame)
        refine' takeH (i := 19) (v := _) (some 148) rfl rfl (by kernel_rfl) (by kernel_rfl) (by kernel_rfl) (fun _ _ _ h => h) (Or.inl ⟨by rfl, fun X hX => ?_⟩) hS ?_
        rotate_left
        · have hX := (show Y = X from hX); subst hX; have c := HP9.out 1 _ rfl; go_simp; exact rfl
        (try go_frame)
        refine' takeH (i := 20) (v := _) (some 149) rfl rfl (by kernel_rfl) (by kernel_rfl) (by kernel_rfl) (fun _ _ _ h => h) (Or.inl ⟨by rfl, fun X hX => ?_⟩) hS ?_
        rotate_left
        · go_simp; exact rfl
        (try go_frame)
        refine' takeH (i := 21) (v := _) (some 150) rfl rfl (by kernel_rfl) (by kernel_rfl) (by kernel_rfl) (fun _ _ _ h => h) (Or.inl ⟨by rfl, fun X hX => ?_⟩) hS ?_
        rotate_left
        · have hX := (show Y = X from hX); subst hX; have c := HP9.out 2 _ rfl; go_simp; exact rfl
        (try go_frame)
        refine' takeH (i := 23) (v := _) (some 152) rfl rfl (by kernel_rfl) (by kernel_rfl) (by kernel_rfl) (fun _ _ _ h => h) (Or.inl ⟨by rfl, fun X hX => ?_⟩) hS ?_
        rotate_left
        · go_simp; exact rfl
        (try go_frame)
        refine' takeH (i := 24) (v := _) (some 153) rfl rfl (by kernel_rfl) (by kernel_rfl) (by kernel_rfl) (fun _ _ _ h => h) (Or.inl ⟨by rfl, fun X hX => ?_⟩) hS ?_
        rotate_left
        · have hX := (show Y = X from hX); subst hX; have c := HP9.out 1 _ rfl; go_simp; exact rfl
        (try go_frame)
        refine' takeH (i := 25) (v := _) (some 154) rfl rfl (by kernel_rfl) (by kernel_rfl) (by kernel_rfl) (fun _ _ _ h => h) (Or.inl ⟨by rfl, fun X hX => ?_⟩) hS ?_
        rotate_left
        · go_simp; exact rfl
        (try go_frame)
        refine' takeH (i := 26) (v := _) (some 155) rfl rfl (by kernel_rfl) (by kernel_rfl) (by kernel_rfl) (fun _ _ _ h => h) (Or.inl ⟨by rfl, fun X hX => ?_⟩) hS ?_
        rotate_left
        · have hX := (show Y = X from hX); subst hX; have c := HP9.out 2 _ rfl; go_simp; exact rfl
        (try go_frame)
        refine wpAnyH_ready (rs := [22]) (by kernel_rfl) (by simp) ?_
        refine (AllReadyH.cons (o := ⟨some 151, _, _, _, _, some (16, false)⟩) rfl (fun K hK => ?_) AllReadyH.nil)
        go_simp
        refine (lq_at t.c t.k HBQ.out.1 HKT.out.2).mono ?_
        rintro e wq ⟨rfl, rfl⟩
        refine hK.out _ _ hS (fun hS => ?_)
        clear hK K
        (try go_frame)
        refine wpAnyH_ready (rs := [27]) (by kernel_rfl) (by simp) ?_
        refine (AllReadyH.cons (o := ⟨some 156, _, _, _, _, some (16, false)⟩) rfl (fun K hK => ?_) AllReadyH.nil)
        go_simp
        refine (rat_any t.c t.k HBQ.out.2.1 HBQ.out.1.l).mono ?_
        rintro e wq ⟨rfl, rfl⟩
        refine hK.out _ _ hS (fun hS => ?_)
        clear hK K
        (try go_frame)
        refine takeH (i := 28) (v := .bool false) (some 157) rfl rfl (by kernel_rfl) (by kernel_rfl) (by kernel_rfl) (fun _ _ _ h => h) (Or.inl ⟨by rfl, fun X hX => ?_⟩) hS ?_
        · go_simp
        (try go_frame)
        refine takeH (i := 29) (v := .bool false) (some 158) rfl rfl (by kernel_rfl) (by kernel_rfl) (by kernel_rfl) (fun _ _ _ h => h) (Or.inl ⟨by rfl, fun X hX => ?_⟩) hS ?_
        · go_simp
        (try go_frame)
        refine wpAnyH_done (by kernel_rfl) ?_ _
        clear hS
        go_wp2_with fail
        go_roundw
        case rel => exact ⟨i + 1, by go_num, by have := HII.out; omega, Lib.hid ⟨_, _, HBQ.out.1.less (fun k hk => .inl hk), HBQ.out.2.1⟩⟩
        case measure => have := HII.out; simp; omega
      have e0 : (z == 0) = false := by simpa using z0
      have e1 : (z == 1) = false := by simpa using z1
      have e2 : (z == 2) = false := by simpa using z2
      have e3 : (z == 3) = false := by simpa using z3
      clear z0 z1 z2 z3
      obtain ⟨L2, hL2⟩ : ∃ L2, L2 = L := ⟨_, rfl⟩
      subst hL2
      obtain ⟨rv2, hrv2⟩ : ∃ rv2, rv2 = rv := ⟨_, rfl⟩
      subst hrv2
      obtain ⟨wN, hwN⟩ : ∃ x, x = w9 := ⟨_, rfl⟩
      subst hwN
      have HNN : Hid (201000 * i ≤ 201000 * (i + 1)) := Lib.hid (by omega)
      have hbo := HBO.out
      have HBB : Hid (Both w3 wN qb mb (201000 * (i + 1)) rb p9 rv2 L2 t) := Lib.hid (hbo.more HNN.out)
      clear hbo
      go_upto_region 27 with fail
      obtain ⟨a9, c9, rfl, -⟩ := HBB.out.2.1.val.val
      have HBY := Lib.hid (HBB.out.still ((Mod.refl (fun _ => False) _).drew))
      refine wp_region_held_drew (S := fun X => World.drew wN = X) (by kernel_rfl) rfl (fun hS => ?_)
      generalize World.drew wN = Y at *
      have HBQ := HBY
      have HCC : Hid (Y.cell? ⟨rb, 0, none⟩ = some (.slice a9 L2.length c9)) := Lib.hid (HBQ.out.2.1.blk.cellAt 0 rfl)
      have HP9 : Hid (Y.rangeAt p9 0 (tmL t)) := Lib.hid HBQ.out.2.2.1.whole
      refine' takeH (i := 0) (v := _) (some 129) rfl rfl (by kernel_rfl) (by kernel_rfl) (by kernel_rfl) (fun _ _ _ h => h) (Or.inl ⟨by rfl, fun X hX => ?_⟩) hS ?_
      rotate_left
      · go_simp; exact rfl
      (try go_frame)
      refine' takeH (i := 1) (v := _) (some 130) rfl rfl (by kernel_rfl) (by kernel_rfl) (by kernel_rfl) (fun _ _ _ h => h) (Or.inl ⟨by rfl, fun X hX => ?_⟩) hS ?_
      rotate_left
      · go_simp; exact rfl
      (try go_frame)
      refine' takeH (i := 2) (v := _) (some 131) rfl rfl (by kernel_rfl) (by kernel_rfl) (by kernel_rfl) (fun _ _ _ h => h) (Or.inl ⟨by rfl, fun X hX => ?_⟩) hS ?_
      rotate_left
      · go_simp; exact rfl
      (try go_frame)
      refine' takeH (i := 3) (v := _) (some 132) rfl rfl (by kernel_rfl) (by kernel_rfl) (by kernel_rfl) (fun _ _ _ h => h) (Or.inl ⟨by rfl, fun X hX => ?_⟩) hS ?_
      rotate_left
      · go_simp; exact rfl
      (try go_frame)
      refine wpAnyH_ready (rs := [4]) (by kernel_rfl) (by simp) ?_
      refine (AllReadyH.cons (o := ⟨some 133, _, _, _, _, some (2, false)⟩) rfl (fun K hK => ?_) AllReadyH.nil)
      go_simp
      refine (lq_next HBQ.out.1).mono ?_
      rintro e wq ⟨rfl, rfl⟩
      refine hK.out _ _ hS (fun hS => ?_)
      clear hK K
      (try go_frame)
      refine wpAnyH_ready (rs := [5]) (by kernel_rfl) (by simp) ?_
      refine (AllReadyH.cons (o := ⟨some 134, _, _, _, _, some (2, false)⟩) rfl (fun K hK => ?_) AllReadyH.nil)
      go_simp
      refine (rnext_any HBQ.out.2.1).mono ?_
      rintro e wq ⟨rfl, rfl⟩
      refine hK.out _ _ hS (fun hS => ?_)
      clear hK K
      (try go_frame)
      refine takeH (i := 6) (v := .bool false) (some 135) rfl rfl (by kernel_rfl) (by kernel_rfl) (by kernel_rfl) (fun _ _ _ h => h) (Or.inl ⟨by rfl, fun X hX => ?_⟩) hS ?_
      · go_simp
      (try go_frame)
      refine takeH (i := 7) (v := .bool false) (some 136) rfl rfl (by kernel_rfl) (by kernel_rfl) (by kernel_rfl) (fun _ _ _ h => h) (Or.inl ⟨by rfl, fun X hX => ?_⟩) hS ?_
      · go_simp
      (try go_frame)
      refine' takeH (i := 8) (v := _) (some 137) rfl rfl (by kernel_rfl) (by kernel_rfl) (by kernel_rfl) (fun _ _ _ h => h) (Or.inl ⟨by rfl, fun X hX => ?_⟩) hS ?_
      rotate_left
      · go_simp; exact rfl
      (try go_frame)
      refine' takeH (i := 9) (v := _) (some 138) rfl rfl (by kernel_rfl) (by kernel_rfl) (by kernel_rfl) (fun _ _ _ h => h) (Or.inl ⟨by rfl, fun X hX => ?_⟩) hS ?_
      rotate_left
      · go_simp; exact rfl
      (try go_frame)
      refine' takeH (i := 11) (v := _) (some 140) rfl rfl (by kernel_rfl) (by kernel_rfl) (by kernel_rfl) (fun _ _ _ h => h) (Or.inl ⟨by rfl, fun X hX => ?_⟩) hS ?_
      rotate_left
      · go_simp; exact rfl
      (try go_frame)
      refine' takeH (i := 12) (v := _) (some 141) rfl rfl (by kernel_rfl) (by kernel_rfl) (by kernel_rfl) (fun _ _ _ h => h) (Or.inl ⟨by rfl, fun X hX => ?_⟩) hS ?_
      rotate_left
      · have hX := (show Y = X from hX); subst hX; have c := HCC.out; go_simp; exact rfl
      (try go_frame)
      refine' takeH (i := 13) (v := _) (some 142) rfl rfl (by kernel_rfl) (by kernel_rfl) (by kernel_rfl) (fun _ _ _ h => h) (Or.inl ⟨by rfl, fun X hX => ?_⟩) hS ?_
      rotate_left
      · go_simp; exact rfl
      (try go_frame)
      refine wpAnyH_ready (rs := [10]) (by kernel_rfl) (by simp) ?_
      refine (AllReadyH.cons (o := ⟨some 139, _, _, _, _, some (8, false)⟩) rfl (fun K hK => ?_) AllReadyH.nil)
      go_simp
      refine (lq_len HBQ.out.1).mono ?_
      rintro e wq ⟨rfl, rfl⟩
      refine hK.out _ _ hS (fun hS => ?_)
      clear hK K
      (try go_frame)
      refine takeH (i := 14) (v := .bool false) (some 143) rfl rfl (by kernel_rfl) (by kernel_rfl) (by kernel_rfl) (fun _ _ _ h => h) (Or.inl ⟨by rfl, fun X hX => ?_⟩) hS ?_
      · go_simp
      (try go_frame)
      refine takeH (i := 15) (v := .bool false) (some 144) rfl rfl (by kernel_rfl) (by kernel_rfl) (by kernel_rfl) (fun _ _ _ h => h) (Or.inl ⟨by rfl, fun X hX => ?_⟩) hS ?_
      · go_simp
      (try go_frame)
      refine' takeH (i := 16) (v := _) (some 145) rfl rfl (by kernel_rfl) (by kernel_rfl) (by kernel_rfl) (fun _ _ _ h => h) (Or.inl ⟨by rfl, fun X hX => ?_⟩) hS ?_
      rotate_left
      · go_simp; exact rfl
      (try go_frame)
      refine' takeH (i := 17) (v := _) (some 146) rfl rfl (by kernel_rfl) (by kernel_rfl) (by kernel_rfl) (fun _ _ _ h => h) (Or.inl ⟨by rfl, fun X hX => ?_⟩) hS ?_
      rotate_left
      · go_simp; exact rfl
      (try go_frame)
      refine' takeH (i := 18) (v := _) (some 147) rfl rfl (by kernel_rfl) (by kernel_rfl) (by kernel_rfl) (fun _ _ _ h => h) (Or.inl ⟨by rfl, fun X hX => ?_⟩) hS ?_
      rotate_left
      · go_simp; exact rfl
      (try go_frame)
      refine' takeH (i := 19) (v := _) (some 148) rfl rfl (by kernel_rfl) (by kernel_rfl) (by kernel_rfl) (fun _ _ _ h => h) (Or.inl ⟨by rfl, fun X hX => ?_⟩) hS ?_
      rotate_left
      · have hX := (show Y = X from hX); subst hX; have c := HP9.out 1 _ rfl; go_simp; exact rfl
      (try go_frame)
      refine' takeH (i := 20) (v := _) (some 149) rfl rfl (by kernel_rfl) (by kernel_rfl) (by kernel_rfl) (fun _ _ _ h => h) (Or.inl ⟨by rfl, fun X hX => ?_⟩) hS ?_
      rotate_left
      · go_simp; exact rfl
      (try go_frame)
      refine' takeH (i := 21) (v := _) (some 150) rfl rfl (by kernel_rfl) (by kernel_rfl) (by kernel_rfl) (fun _ _ _ h => h) (Or.inl ⟨by rfl, fun X hX => ?_⟩) hS ?_
      rotate_left
      · have hX := (show Y = X from hX); subst hX; have c := HP9.out 2 _ rfl; go_simp; exact rfl
      (try go_frame)
      refine' takeH (i := 23) (v := _) (some 152) rfl rfl (by kernel_rfl) (by kernel_rfl) (by kernel_rfl) (fun _ _ _ h => h) (Or.inl ⟨by rfl, fun X hX => ?_⟩) hS ?_
      rotate_left
      · go_simp; exact rfl
      (try go_frame)
      refine' takeH (i := 24) (v := _) (some 153) rfl rfl (by kernel_rfl) (by kernel_rfl) (by kernel_rfl) (fun _ _ _ h => h) (Or.inl ⟨by rfl, fun X hX => ?_⟩) hS ?_
      rotate_left
      · have hX := (show Y = X from hX); subst hX; have c := HP9.out 1 _ rfl; go_simp; exact rfl
      (try go_frame)
      refine' takeH (i := 25) (v := _) (some 154) rfl rfl (by kernel_rfl) (by kernel_rfl) (by kernel_rfl) (fun _ _ _ h => h) (Or.inl ⟨by rfl, fun X hX => ?_⟩) hS ?_
      rotate_left
      · go_simp; exact rfl
      (try go_frame)
      refine' takeH (i := 26) (v := _) (some 155) rfl rfl (by kernel_rfl) (by kernel_rfl) (by kernel_rfl) (fun _ _ _ h => h) (Or.inl ⟨by rfl, fun X hX => ?_⟩) hS ?_
      rotate_left
      · have hX := (show Y = X from hX); subst hX; have c := HP9.out 2 _ rfl; go_simp; exact rfl
      (try go_frame)
      refine wpAnyH_ready (rs := [22]) (by kernel_rfl) (by simp) ?_
      refine (AllReadyH.cons (o := ⟨some 151, _, _, _, _, some (16, false)⟩) rfl (fun K hK => ?_) AllReadyH.nil)
      go_simp
      refine (lq_at t.c t.k HBQ.out.1 HKT.out.2).mono ?_
      rintro e wq ⟨rfl, rfl⟩
      refine hK.out _ _ hS (fun hS => ?_)
      clear hK K
      (try go_frame)
      refine wpAnyH_ready (rs := [27]) (by kernel_rfl) (by simp) ?_
      refine (AllReadyH.cons (o := ⟨some 156, _, _, _, _, some (16, false)⟩) rfl (fun K hK => ?_) AllReadyH.nil)
      go_simp
      refine (rat_any t.c t.k HBQ.out.2.1 HBQ.out.1.l).mono ?_
      rintro e wq ⟨rfl, rfl⟩
      refine hK.out _ _ hS (fun hS => ?_)
      clear hK K
      (try go_frame)
      refine takeH (i := 28) (v := .bool false) (some 157) rfl rfl (by kernel_rfl) (by kernel_rfl) (by kernel_rfl) (fun _ _ _ h => h) (Or.inl ⟨by rfl, fun X hX => ?_⟩) hS ?_
      · go_simp
      (try go_frame)
      refine takeH (i := 29) (v := .bool false) (some 158) rfl rfl (by kernel_rfl) (by kernel_rfl) (by kernel_rfl) (fun _ _ _ h => h) (Or.inl ⟨by rfl, fun X hX => ?_⟩) hS ?_
      · go_simp
      (try go_frame)
      refine wpAnyH_done (by kernel_rfl) ?_ _
      clear hS
      go_wp2_with fail
      go_roundw
      case rel => exact ⟨i + 1, by go_num, by have := HII.out; omega, Lib.hid ⟨_, _, HBQ.out.1.less (fun k hk => .inl hk), HBQ.out.2.1⟩⟩
      case measure => have := HII.out; simp; omega
    · have i1 : ¬ (i : Int) < (m : Int) := by omega
      obtain rfl : i = m := by omega
      have HL : Hid (LQ w3 wr qb mb (201000 * i) L (RF rb rv L) ∧ RQ w3.heap.size wr rb rv L) := Lib.hid ⟨hlq, hrq⟩
      obtain ⟨a9, c9, rfl, -⟩ := hrq.val.val
      have HC : Hid (wr.cell? ⟨rb, 0, none⟩ = some (.slice a9 L.length c9)) := Lib.hid (hrq.blk.cellAt 0 rfl)
      clear hlt hi hlq hrq HS
      go_upto_region 29 with fail
      refine wp_region_held_drew (S := fun X => Mod (fun _ => False) wr X) (by kernel_rfl) (Mod.refl _ _).drew (fun hS => ?_)
      generalize wr.drew = Y at *
      refine' takeH (i := 0) (v := _) (some 159) rfl rfl (by kernel_rfl) (by kernel_rfl) (by kernel_rfl) (fun _ _ _ h => h) (Or.inl ⟨by rfl, fun X hX => ?_⟩) hS ?_
      rotate_left
      · go_simp; exact rfl
      (try go_frame)
      refine' takeH (i := 2) (v := _) (some 161) rfl rfl (by kernel_rfl) (by kernel_rfl) (by kernel_rfl) (fun _ _ _ h => h) (Or.inl ⟨by rfl, fun X hX => ?_⟩) hS ?_
      rotate_left
      · go_simp; exact rfl
      (try go_frame)
      refine' takeH (i := 3) (v := _) (some 162) rfl rfl (by kernel_rfl) (by kernel_rfl) (by kernel_rfl) (fun _ _ _ h => h) (Or.inl ⟨by rfl, fun X hX => ?_⟩) hS ?_
      rotate_left
      · have c := hX.cellAt HC.out (fun e => e); go_simp; exact rfl
      (try go_frame)
      refine wpAnyH_ready (rs := [1]) (by kernel_rfl) (by simp) ?_
      refine (AllReadyH.cons (o := ⟨some 160, _, _, _, _, none⟩) rfl (fun K hK => ?_) AllReadyH.nil)
      go_simp
      refine (lq_list (HL.out.1.still hS)).mono ?_
      rintro e w30 ⟨a30, c30, rfl, ht30, hM30, -⟩
      refine hK.out _ _ (hS.trans hM30) (fun hS => ?_)
      clear hK K hM30
      have HT := Lib.hid ht30
      clear ht30
      (try go_frame)
      refine wpAnyH_ready (rs := [4]) (by kernel_rfl) (by simp) ?_
      refine (AllReadyH.cons (o := ⟨some 163, _, _, _, _, none⟩) rfl (fun K hK => ?_) AllReadyH.nil)
      go_simp
      refine (same_tm HT.out (HL.out.2.still hS).val (by have := HL.out.1.l.n; omega) (by have := HL.out.1.l.n; omega)).mono ?_
      rintro e w31 ⟨he, hM31⟩
      rw [decide_eq_true rfl] at he
      subst he
      refine hK.out _ _ (hS.trans hM31) (fun hS => ?_)
      clear hK K hM31
      (try go_frame)
      refine' takeH (i := 5) (v := _) (some 2) rfl rfl (by kernel_rfl) (by kernel_rfl) (by kernel_rfl) (fun _ _ _ h => h) (Or.inl ⟨by rfl, fun X hX => ?_⟩) hS ?_
      rotate_left
      · go_simp; exact rfl
      (try go_frame)
      refine wpAnyH_done (by kernel_rfl) ?_ _
      have HE := Lib.hid (HM3.out.trans (HL.out.1.m.trans hS))
      clear hS
      go_wp2_with fail
      go_ret
      exact ⟨rfl, HE.out.below (Nat.le_refl _) (fun _ _ h => h.elim)⟩
end Go.Proofs.Ytodcadcapmhgfaa
