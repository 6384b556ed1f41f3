/- Which timer comes ahead: the program's, and what it compares by. (printed by gente.py) -/
import Derived.Test.YtodcadcapmhgfaaTeA
import Derived.BigQuiet
import Derived.Deep.QuietTactic
import Derived.Deep.RegionHeld3
import Derived.WalkLawsBesides
import Derived.WalkSpells
import Derived.Lib.Hide
namespace Go.Proofs.Ytodcadcapmhgfaa
open Go.RowKit

theorem exec_load' {P : Program} {w : World} {a : Act} {op : Oper} {ty : TypeId} {x : Operand} (ho : op.op = .load ty x) {p v : Value} (hx : a.eval x = p) (hl : (Instr.loadAt ty p).run P w = .ok v w) : (execOp a.eval op).run P w = .ok (.value v) w := by
  unfold execOp
  simp only [ho, hx, Sem.run_bind, hl, Result.andThen_ok, Sem.run_pure]
/-- As 'wpAnyH_take', the slot told. -/
theorem takeH {P : Program} {ops : Array Oper} {Q : Exit → Act → World → Prop} {md : Region.Mode} {S : World → Prop} {i : Nat} {oi : Oper} {v : Value} {fuel : Nat} {listed : Array Bool} {a : Act} {w : World} (d : Option Tmp) (hi : ops[i]? = some oi) (hd : oi.dst = d)
    (hs : Region.noSelect ops = true) (hf : Region.free md ops listed i = true) (hr : (Region.ready md ops listed).contains i = true)
    (hQ : ∀ c a w, Q (.panic c) (a.put d v) w → Q (.panic c) a w) (hy : YieldsIf P ops S oi v a) (hS : S w)
    (h : wpAnyH P md ops Q S fuel (listed.setIfInBounds i true) (a.put d v) w) : wpAnyH P md ops Q S (fuel + 1) listed a w := by
  subst hd
  exact wpAnyH_take hi hs hf hr hQ hy hS h
def cmpZ (a b : Int) : Int := if a < b then -1 else if b < a then 1 else 0
theorem nan_i (a : Int) (w : World) : Calls Try.prog 52 #[.int .i64 a] w fun e w' => w = w' ∧ e = .returned (.bool false) := by
  go_enter Try.func52, Try.ntmps52
  go_wp2
  go_ret
  exact ⟨rfl, by simp⟩
theorem nan_u (a : Int) (w : World) : Calls Try.prog 51 #[.int .u64 a] w fun e w' => w = w' ∧ e = .returned (.bool false) := by
  go_enter Try.func51, Try.ntmps51
  go_wp2
  go_ret
  exact ⟨rfl, by simp⟩
theorem cmp_i (a b : Int) (w : World) : Calls Try.prog 40 #[.int .i64 a, .int .i64 b] w fun e w' => w = w' ∧ e = .returned (.int .i64 (cmpZ a b)) := by
  have HC : Hid (∀ z, z = cmpZ a b → Ending.returned (.int .i64 z) = .returned (.int .i64 (cmpZ a b))) := fun z h => by rw [h]
  go_enter Try.func40, Try.ntmps40
  go_wp2_with (first
    | (go_at_call 52; refine (nan_i _ _).mono ?_; rintro e w' ⟨rfl, rfl⟩)
    | fail)
  all_goals go_ret
  all_goals refine ⟨rfl, HC.out _ ?_⟩
  all_goals (clear HC; unfold cmpZ; (repeat' split) <;> first | rfl | (simp_all; done) | omega | (exfalso; simp_all <;> omega))
theorem cmp_u (a b : Int) (w : World) : Calls Try.prog 39 #[.int .u64 a, .int .u64 b] w fun e w' => w = w' ∧ e = .returned (.int .i64 (cmpZ a b)) := by
  have HC : Hid (∀ z, z = cmpZ a b → Ending.returned (.int .i64 z) = .returned (.int .i64 (cmpZ a b))) := fun z h => by rw [h]
  go_enter Try.func39, Try.ntmps39
  go_wp2_with (first
    | (go_at_call 51; refine (nan_u _ _).mono ?_; rintro e w' ⟨rfl, rfl⟩)
    | fail)
  all_goals go_ret
  all_goals refine ⟨rfl, HC.out _ ?_⟩
  all_goals (clear HC; unfold cmpZ; (repeat' split) <;> first | rfl | (simp_all; done) | omega | (exfalso; simp_all <;> omega))
def orZ (x y z : Int) : Int := if x ≠ 0 then x else if y ≠ 0 then y else z
set_option maxRecDepth 10000 in
theorem or_any {w : World} {g : Nat} {x y z : Int} (h0 : w.cell? ⟨g, 0, none⟩ = some (.int .i64 x)) (h1 : w.cell? ⟨g, 1, none⟩ = some (.int .i64 y)) (h2 : w.cell? ⟨g, 2, none⟩ = some (.int .i64 z)) :
    Calls Try.prog 38 #[.slice (some ⟨g, 0, none⟩) 3 3] w fun e w' => w = w' ∧ e = .returned (.int .i64 (orZ x y z)) := by
  have HX : Hid (orZ x y z = if x ≠ 0 then x else if y ≠ 0 then y else z) := rfl
  generalize orZ x y z = R at *
  go_enter Try.func38, Try.ntmps38
  go_wp2
  go_loopw [8] (fun s8 wr => ∃ k : Nat, k ≤ 3 ∧ s8 = .int .i64 k ∧ wr = w ∧ Hid (1 ≤ k → x = 0) ∧ Hid (2 ≤ k → y = 0) ∧ Hid (3 ≤ k → z = 0)) (fun s8 _ => 3 - (match s8 with | .int _ n => n.toNat | _ => 0))
  case atStart => exact ⟨0, by decide, rfl, rfl, fun h => absurd h (by decide), fun h => absurd h (by decide), fun h => absurd h (by decide)⟩
  case round =>
    obtain ⟨k, hk, rfl, rfl, H1, H2, H3⟩ := hrel
    match k, hk with
    | 0, _ =>
      by_cases hx : x = 0
      · subst hx
        go_wp2
        go_roundw
        case rel => exact ⟨1, by decide, by go_num, (by first | exact trivial | rfl), (by first | exact trivial | exact fun _ => trivial | exact fun _ => rfl), fun h => absurd h (by decide), fun h => absurd h (by decide)⟩
        case measure => simp
      · have hb : (x != 0) = true := by simpa using hx
        go_wp2
        go_ret
        exact ⟨rfl, by rw [HX.out, if_pos hx]; rfl⟩
    | 1, _ =>
      have hx := H1.out (by decide)
      by_cases hy : y = 0
      · subst hy
        go_wp2
        go_roundw
        case rel => exact ⟨2, by decide, by go_num, (by first | exact trivial | rfl), fun _ => hx, (by first | exact trivial | exact fun _ => trivial | exact fun _ => rfl), fun h => absurd h (by decide)⟩
        case measure => simp
      · have hb : (y != 0) = true := by simpa using hy
        go_wp2
        go_ret
        exact ⟨rfl, by rw [HX.out, if_neg (by simpa using hx), if_pos hy]; rfl⟩
    | 2, _ =>
      have hx := H1.out (by decide)
      have hy := H2.out (by decide)
      by_cases hz : z = 0
      · subst hz
        go_wp2
        go_roundw
        case rel => exact ⟨3, by decide, by go_num, (by first | exact trivial | rfl), fun _ => hx, fun _ => hy, (by first | exact trivial | exact fun _ => trivial | exact fun _ => rfl)⟩
        case measure => simp
      · have hb : (z != 0) = true := by simpa using hz
        go_wp2
        go_ret
        exact ⟨rfl, by rw [HX.out, if_neg (by simpa using hx), if_neg (by simpa using hy)]; rfl⟩
    | 3, _ =>
      have hx := H1.out (by decide)
      have hy := H2.out (by decide)
      have hz := H3.out (by decide)
      go_wp2
      go_ret
      exact ⟨rfl, by rw [HX.out, if_neg (by simpa using hx), if_neg (by simpa using hy), hz]; rfl⟩
def ahdZ (a b : Tm) : Int := orZ (cmpZ a.t b.t) (cmpZ a.c b.c) (cmpZ a.k b.k)
theorem ahdZ_neg (a b : Tm) : decide (ahdZ a b < 0) = ahd a b := by
  rw [Bool.eq_iff_iff, decide_eq_true_eq, ahd_iff]
  unfold ahdZ orZ cmpZ
  have e : ((a.t : Int) < (b.t : Int)) ↔ a.t < b.t := by omega
  have e2 : ((b.t : Int) < (a.t : Int)) ↔ b.t < a.t := by omega
  by_cases h1 : a.t < b.t
  · simp [h1]
  · by_cases h2 : b.t < a.t
    · simp [h1, h2]; omega
    · by_cases h3 : a.c < b.c
      · simp [h1, h2, h3]; omega
      · by_cases h4 : b.c < a.c
        · simp [h1, h2, h3, h4]; omega
        · by_cases h5 : a.k < b.k
          · simp [h1, h2, h3, h4, h5]; omega
          · by_cases h6 : b.k < a.k
            · simp [h1, h2, h3, h4, h5, h6]
            · simp [h1, h2, h3, h4, h5, h6]
set_option maxHeartbeats 4000000 in
set_option maxRecDepth 10000 in
theorem ahead_any (a b : Tm) (w : World) : Calls Try.prog 31 #[.agg (tmA a), .agg (tmA b)] w fun e w' => e = .returned (.int .i64 (ahdZ a b)) ∧ Mod (fun _ => False) w w' := by
  have HB : Hid (Blk ((w.alloc (.cells (tmA a) 27)).alloc (.cells (tmA b) 27)) w.heap.size (tmA a) 27 ∧ Blk ((w.alloc (.cells (tmA a) 27)).alloc (.cells (tmA b) 27)) (w.heap.size + 1) (tmA b) 27) := by
    refine ⟨(Blk.new _ _ _).alloc _, ?_⟩
    have h := Blk.new (w.alloc (.cells (tmA a) 27)) (tmA b) 27
    rwa [show (w.alloc (.cells (tmA a) 27)).heap.size = w.heap.size + 1 by simp] at h
  have HM : Hid (Mod (fun _ => False) w ((w.alloc (.cells (tmA a) 27)).alloc (.cells (tmA b) 27))) := ((Mod.refl _ _).alloc _).alloc _
  have HZ : Hid (ahdZ a b = orZ (cmpZ a.t b.t) (cmpZ a.c b.c) (cmpZ a.k b.k)) := rfl
  generalize ahdZ a b = R at *
  obtain ⟨A, hA⟩ : ∃ x, x = tmA a := ⟨_, rfl⟩
  obtain ⟨B, hB⟩ : ∃ x, x = tmA b := ⟨_, rfl⟩
  rw [← hA, ← hB] at HB HM ⊢
  have HA := Lib.hid hA
  have HBB := Lib.hid hB
  clear hA hB
  go_enter Try.func31, Try.ntmps31
  go_wp2_with fail
  (try go_frame)
  generalize ((w.alloc (.cells A 27)).alloc (.cells B 27)) = W at *
  rw [HA.out, HBB.out] at HB
  refine wp_region_held_drew (S := fun X => Mod (fun _ => False) W X) (by kernel_rfl) (Mod.refl _ _).drew (fun hS => ?_)
  refine takeH (i := 0) (v := .pointer (some ⟨w.heap.size, 0, none⟩)) (some 5) rfl rfl (by kernel_rfl) (by kernel_rfl) (by kernel_rfl) (fun _ _ _ h => h) (Or.inl ⟨by rfl, fun X hX => ?_⟩) hS ?_
  · go_simp
  (try go_frame)
  refine takeH (i := 1) (v := .int .u64 (a.t : Int)) (some 6) rfl rfl (by kernel_rfl) (by kernel_rfl) (by kernel_rfl) (fun _ _ _ h => h) (Or.inl ⟨by rfl, fun X hX => ?_⟩) hS ?_
  · have c : X.cell? ⟨w.heap.size, 0, none⟩ = some (.int .u64 (a.t : Int)) := hX.cellAt (HB.out.1.cellAt 0 rfl) (fun h => h); go_simp
  (try go_frame)
  refine takeH (i := 2) (v := .pointer (some ⟨w.heap.size + 1, 0, none⟩)) (some 7) rfl rfl (by kernel_rfl) (by kernel_rfl) (by kernel_rfl) (fun _ _ _ h => h) (Or.inl ⟨by rfl, fun X hX => ?_⟩) hS ?_
  · go_simp
  (try go_frame)
  refine takeH (i := 3) (v := .int .u64 (b.t : Int)) (some 8) rfl rfl (by kernel_rfl) (by kernel_rfl) (by kernel_rfl) (fun _ _ _ h => h) (Or.inl ⟨by rfl, fun X hX => ?_⟩) hS ?_
  · have c : X.cell? ⟨w.heap.size + 1, 0, none⟩ = some (.int .u64 (b.t : Int)) := hX.cellAt (HB.out.2.cellAt 0 rfl) (fun h => h); go_simp
  (try go_frame)
  refine takeH (i := 5) (v := .pointer (some ⟨w.heap.size, 1, none⟩)) (some 10) rfl rfl (by kernel_rfl) (by kernel_rfl) (by kernel_rfl) (fun _ _ _ h => h) (Or.inl ⟨by rfl, fun X hX => ?_⟩) hS ?_
  · go_simp
  (try go_frame)
  refine takeH (i := 6) (v := .int .i64 a.c) (some 11) rfl rfl (by kernel_rfl) (by kernel_rfl) (by kernel_rfl) (fun _ _ _ h => h) (Or.inl ⟨by rfl, fun X hX => ?_⟩) hS ?_
  · have c : X.cell? ⟨w.heap.size, 1, none⟩ = some (.int .i64 a.c) := hX.cellAt (HB.out.1.cellAt 1 rfl) (fun h => h); go_simp
  (try go_frame)
  refine takeH (i := 7) (v := .pointer (some ⟨w.heap.size + 1, 1, none⟩)) (some 12) rfl rfl (by kernel_rfl) (by kernel_rfl) (by kernel_rfl) (fun _ _ _ h => h) (Or.inl ⟨by rfl, fun X hX => ?_⟩) hS ?_
  · go_simp
  (try go_frame)
  refine takeH (i := 8) (v := .int .i64 b.c) (some 13) rfl rfl (by kernel_rfl) (by kernel_rfl) (by kernel_rfl) (fun _ _ _ h => h) (Or.inl ⟨by rfl, fun X hX => ?_⟩) hS ?_
  · have c : X.cell? ⟨w.heap.size + 1, 1, none⟩ = some (.int .i64 b.c) := hX.cellAt (HB.out.2.cellAt 1 rfl) (fun h => h); go_simp
  (try go_frame)
  refine takeH (i := 10) (v := .pointer (some ⟨w.heap.size, 2, none⟩)) (some 15) rfl rfl (by kernel_rfl) (by kernel_rfl) (by kernel_rfl) (fun _ _ _ h => h) (Or.inl ⟨by rfl, fun X hX => ?_⟩) hS ?_
  · go_simp
  (try go_frame)
  refine takeH (i := 11) (v := .int .i64 a.k) (some 16) rfl rfl (by kernel_rfl) (by kernel_rfl) (by kernel_rfl) (fun _ _ _ h => h) (Or.inl ⟨by rfl, fun X hX => ?_⟩) hS ?_
  · have c : X.cell? ⟨w.heap.size, 2, none⟩ = some (.int .i64 a.k) := hX.cellAt (HB.out.1.cellAt 2 rfl) (fun h => h); go_simp
  (try go_frame)
  refine takeH (i := 12) (v := .pointer (some ⟨w.heap.size + 1, 2, none⟩)) (some 17) rfl rfl (by kernel_rfl) (by kernel_rfl) (by kernel_rfl) (fun _ _ _ h => h) (Or.inl ⟨by rfl, fun X hX => ?_⟩) hS ?_
  · go_simp
  (try go_frame)
  refine takeH (i := 13) (v := .int .i64 b.k) (some 18) rfl rfl (by kernel_rfl) (by kernel_rfl) (by kernel_rfl) (fun _ _ _ h => h) (Or.inl ⟨by rfl, fun X hX => ?_⟩) hS ?_
  · have c : X.cell? ⟨w.heap.size + 1, 2, none⟩ = some (.int .i64 b.k) := hX.cellAt (HB.out.2.cellAt 2 rfl) (fun h => h); go_simp
  (try go_frame)
  refine wpAnyH_ready (rs := [4]) (by kernel_rfl) (by simp) ?_
  refine AllReadyH.cons rfl (fun K hK => ?_) AllReadyH.nil
  go_simp
  refine (cmp_u a.t b.t _).mono ?_
  rintro e X4 ⟨rfl, rfl⟩
  refine hK.out _ _ hS (fun hS => ?_)
  clear hK K
  refine wpAnyH_ready (rs := [9]) (by kernel_rfl) (by simp) ?_
  refine AllReadyH.cons rfl (fun K hK => ?_) AllReadyH.nil
  go_simp
  refine (cmp_i a.c b.c _).mono ?_
  rintro e X9 ⟨rfl, rfl⟩
  refine hK.out _ _ hS (fun hS => ?_)
  clear hK K
  refine wpAnyH_ready (rs := [14]) (by kernel_rfl) (by simp) ?_
  refine AllReadyH.cons rfl (fun K hK => ?_) AllReadyH.nil
  go_simp
  refine (cmp_i a.k b.k _).mono ?_
  rintro e X14 ⟨rfl, rfl⟩
  refine hK.out _ _ hS (fun hS => ?_)
  clear hK K
  refine wpAnyH_ready (rs := [15]) (by kernel_rfl) (by simp) ?_
  refine AllReadyH.cons rfl (fun K hK => ?_) AllReadyH.nil
  go_simp
  refine hK.out _ _ (hS.alloc _) (fun hS => ?_)
  clear hK K
  refine wpAnyH_ready (rs := [16]) (by kernel_rfl) (by simp) ?_
  refine AllReadyH.cons rfl (fun K hK => ?_) AllReadyH.nil
  go_simp
  refine (or_any (x := cmpZ a.t b.t) (y := cmpZ a.c b.c) (z := cmpZ a.k b.k) ?_ ?_ ?_).mono ?_
  · exact (Blk.new _ #[.int .i64 (cmpZ a.t b.t), .int .i64 (cmpZ a.c b.c), .int .i64 (cmpZ a.k b.k)] _).cellAt 0 rfl
  · exact (Blk.new _ #[.int .i64 (cmpZ a.t b.t), .int .i64 (cmpZ a.c b.c), .int .i64 (cmpZ a.k b.k)] _).cellAt 1 rfl
  · exact (Blk.new _ #[.int .i64 (cmpZ a.t b.t), .int .i64 (cmpZ a.c b.c), .int .i64 (cmpZ a.k b.k)] _).cellAt 2 rfl
  rintro e X16 ⟨rfl, rfl⟩
  rw [← HZ.out]
  refine hK.out _ _ hS (fun hS => ?_)
  clear hK K
  refine takeH (i := 17) (v := .int .i64 R) (some 4) rfl rfl (by kernel_rfl) (by kernel_rfl) (by kernel_rfl) (fun _ _ _ h => h) (Or.inl ⟨by rfl, fun X hX => ?_⟩) hS ?_
  · go_simp
  (try go_frame)
  refine wpAnyH_done (by kernel_rfl) ?_ _
  have HM2 := Lib.hid (HM.out.trans hS)
  clear hS
  go_wp2_with fail
  go_ret
  exact ⟨rfl, HM2.out⟩
end Go.Proofs.Ytodcadcapmhgfaa
