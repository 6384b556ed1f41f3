/- Put of whatever parameters; the laws' example. -/
import Derived.Test.YtacgcpofpmkgnaaDoorPaN
namespace Go.Proofs.YtacgcpofpmkgnaaDoor
open Go.RowKit

theorem put_yes {p : Pm} (h : mayB p = true) : pputL p = putUp p 4 := by rw [pputL, if_pos h]; rfl
theorem put_no {p : Pm} (h : mayB p = false) : pputL p = [] := by rw [pputL, if_neg (by simp [h])]
theorem put_len {p : Pm} (h : p.t.length = 16) : (pputL p).length ≤ 58 := by
  cases hm : mayB p
  · rw [put_no hm]; simp
  · rw [put_yes hm]; exact putUp_len p h 4
set_option maxRecDepth 10000 in
theorem pput_any {p : Pm} (h : p.t.length = 16) {w : World} (hT : Tabs w) : Calls Tryd.prog 13 #[pmV p] w fun e w' => ∃ v, e = .returned v ∧ OwnB w' w.heap.size v (pputL p) ∧ Mod (fun _ => False) w w' := by
  cases hm : mayB p
  · rw [put_no hm]
    have hmay := Lib.hid (may_any h (w.alloc (.cells (pmC p) 25)))
    rw [hm] at hmay
    have HS := Lib.hid (size25 p h)
    unfold pmV at *
    generalize pmC p = C at *
    clear h hm hT
    go_enter Tryd.func13, Tryd.ntmps13
    go_wp2_with ((with_reducible refine wpList_load_blk ?_ 25 (.tmp 1) ?_ w.heap.size ?_ C 25 _ (Blk.new _ _ _) Tryd.underlying25 ?_ HS.out ?_); (· exact rfl); (· exact rfl); (· exact rfl); (· exact rfl))
    refine (hmay.out).mono ?_
    rintro e w1 ⟨rfl, hM1⟩
    go_wp2_with fail
    go_ret
    exact ⟨_, rfl, OwnB.nil _ _, ((Mod.refl _ w).alloc _).trans hM1⟩
  · rw [put_yes hm]
    exact pput_may h hT hm
set_option maxRecDepth 10000 in
theorem refpput_any {p : Pm} (h : p.t.length = 16) (w : World) : Calls Tryd.prog 14 #[pmV p] w fun e w' => ∃ v, e = .returned v ∧ OwnB w' w.heap.size v (pputL p) ∧ Mod (fun _ => False) w w' := by
  cases hm : mayB p
  · rw [put_no hm]
    have hmay := Lib.hid (refmay_any h (w.alloc (.cells (pmC p) 25)))
    rw [hm] at hmay
    have HS := Lib.hid (size25 p h)
    unfold pmV at *
    generalize pmC p = C at *
    clear h hm
    go_enter Tryd.func14, Tryd.ntmps14
    go_wp2_with ((with_reducible refine wpList_load_blk ?_ 25 (.tmp 1) ?_ w.heap.size ?_ C 25 _ (Blk.new _ _ _) Tryd.underlying25 ?_ HS.out ?_); (· exact rfl); (· exact rfl); (· exact rfl); (· exact rfl))
    refine (hmay.out).mono ?_
    rintro e w1 ⟨rfl, hM1⟩
    go_wp2_with fail
    go_ret
    exact ⟨_, rfl, OwnB.nil _ _, ((Mod.refl _ w).alloc _).trans hM1⟩
  · rw [put_yes hm]
    exact refpput_may h hm
theorem setP_len (p : Pm) (id x : Nat) : (setP p id x).t = p.t := by unfold setP; split <;> (try split) <;> (try split) <;> (try split) <;> rfl
theorem takeL_len {p p' : Pm} {id : Nat} {v : List UInt8} (h : p.t.length = 16) (ht : takeL p id v = some p') : p'.t.length = 16 := by
  unfold takeL at ht
  split at ht
  · split at ht
    · rename_i h16
      simp at ht; subst ht; exact h16
    · cases ht
  · split at ht
    · split at ht
      · simp at ht; subst ht; rw [setP_len]; exact h
      · cases ht
    · simp at ht; subst ht; exact h
theorem finP_len {p : Pm} (h : p.t.length = 16) : (finP p).1.t.length = 16 := by
  unfold finP; split
  · exact h
  · rfl
theorem preadL_len (f : Nat) : ∀ (p : Pm) (had : List Nat) (s : RS), p.t.length = 16 → (preadL f p had s).1.t.length = 16 := by
  induction f with
  | zero => intro p had s h; exact finP_len h
  | succ f ih =>
    intro p had s h
    unfold preadL
    split
    · exact finP_len h
    · split
      · rfl
      · split
        · rfl
        · split
          · rfl
          · rename_i p' ht
            exact ih _ _ _ (takeL_len h ht)
theorem preadF_len (l : List UInt8) : (preadF l).1.t.length = 16 := preadL_len _ _ _ _ rfl
/-- Whole parameters are read. -/
theorem PmB.load {w : World} {b : Nat} {p : Pm} (h : PmB w b p) : (Instr.loadAt 25 (.pointer (some ⟨b, 0, none⟩))).run Tryd.prog w = .ok (.agg (pmC p)) w :=
  run_loadAt_mid w b 0 25 (pmC p).toList _ h.blk.whole Tryd.underlying25 rfl (size25 p h.len)
/-- The example. -/
def pA : Pm := ⟨30, 1000, 500, 4, true, [7, 0, 0, 0, 0, 0, 0, 0, 0, 0, 0, 0, 0, 0, 0, 0]⟩
def pB : Pm := ⟨5, 0, 0, 0, false, zeros16⟩
def pT : Pm := ⟨0, 0, 0, 0, false, [1, 0, 0, 0, 0, 0, 0, 0, 0, 0, 0, 0, 0, 0, 0, 0]⟩
theorem may_pA : mayB pA = true := by decide
theorem may_pT : mayB pT = false := by decide
theorem read_pA : preadF (pputL pA) = (pA, 0) := by rfl
theorem read_11 : preadF [1, 1, 5, 1, 1, 5] = (Pm.zero, 11) := by rfl
theorem put_pB : pputL pB = [1, 1, 5] := by rfl
end Go.Proofs.YtacgcpofpmkgnaaDoor
