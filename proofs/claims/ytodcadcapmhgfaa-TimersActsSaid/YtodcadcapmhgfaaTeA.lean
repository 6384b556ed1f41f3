/- Timers in memory: a row of them of the call's own; a store into it. -/
import Derived.Test.YtodcadcapmhgfaaWMap
import Derived.Test.YtodcadcapmhgfaaTaD
namespace Go.Proofs.Ytodcadcapmhgfaa
open Go.RowKit

def tmL (t : Tm) : List Value := [.int .u64 (t.t : Int), .int .i64 t.c, .int .i64 t.k]
def tmA (t : Tm) : Array Value := #[.int .u64 (t.t : Int), .int .i64 t.c, .int .i64 t.k]
theorem tmA_list (t : Tm) : (tmA t).toList = tmL t := rfl
theorem tmA_one (t : Tm) : ∀ v ∈ (tmA t).toList, v.oneCell' = true := by
  intro v hv
  rw [tmA_list] at hv
  simp only [tmL, List.mem_cons, List.not_mem_nil, or_false] at hv
  rcases hv with rfl | rfl | rfl <;> rfl
theorem tmL_len (l : List Tm) : (l.flatMap tmL).length = l.length * 3 := by
  induction l with
  | nil => rfl
  | cons x m ih => rw [List.flatMap_cons, List.length_append, ih, List.length_cons]; simp [tmL]; omega
theorem tmL_at : ∀ (l : List Tm) (i : Nat) (s : Tm), l[i]? = some s → ∀ j, j < 3 → (l.flatMap tmL)[i * 3 + j]? = (tmL s)[j]?
  | [], i, s, h, _, _ => by simp at h
  | x :: l, 0, s, h, j, hj => by
    simp at h
    subst h
    rw [List.flatMap_cons, Nat.zero_mul, Nat.zero_add, List.getElem?_append_left (by simpa [tmL] using hj)]
  | x :: l, i + 1, s, h, j, hj => by
    have := tmL_at l i s (by simpa using h) j hj
    rw [List.flatMap_cons, List.getElem?_append_right (by simp [tmL]; omega), show (i + 1) * 3 + j - (tmL x).length = i * 3 + j by simp [tmL]; omega]
    exact this
theorem tmL_set : ∀ (l : List Tm) (i : Nat) (s : Tm), i < l.length → (l.set i s).flatMap tmL = (l.flatMap tmL).take (i * 3) ++ tmL s ++ (l.flatMap tmL).drop (i * 3 + 3)
  | [], i, s, h => by simp at h
  | x :: l, 0, s, _ => by
    rw [List.set_cons_zero, List.flatMap_cons, List.flatMap_cons]
    simp [tmL]
  | x :: l, i + 1, s, h => by
    have ih := tmL_set l i s (by simpa using h)
    have e1 : (i + 1) * 3 = (tmL x).length + i * 3 := by simp [tmL]; omega
    have e2 : (i + 1) * 3 + 3 = (tmL x).length + (i * 3 + 3) := by simp [tmL]; omega
    rw [List.set_cons_succ, List.flatMap_cons, List.flatMap_cons, ih, e1, show (tmL x).length + i * 3 + 3 = (tmL x).length + (i * 3 + 3) by omega, List.take_length_add_append, List.drop_length_add_append]
    simp
/-- The call's own timers. -/
def OwnT (w : World) (B : Nat) (v : Value) (h : List Tm) : Prop := w.ownsRow B 27 3 v h.length (h.flatMap tmL)
theorem OwnT.kept {S : Nat → Prop} {w w' : World} {B : Nat} {v : Value} {h : List Tm} (ho : OwnT w B v h) (hM : Mod S w w') (hS : ∀ g, v.ownBlock = some g → ¬ S g) : OwnT w' B v h := hM.own ho hS
theorem OwnT.nil (w : World) (B : Nat) : OwnT w B (.slice none 0 0) [] := World.ownsRow_nil _ _ _ _
theorem OwnT.apart {w : World} {B b : Nat} {v : Value} {h : List Tm} {C : Array Value} {T : TypeId} (ho : OwnT w B v h) (hb : Blk w b C T) (ht : T ≠ 27) : ¬ v.ownBlock = some b := by
  intro e
  rcases ho.2 with ⟨rfl, _⟩ | ⟨g, cap, cur, rfl, _, hg, _⟩
  · simp [Value.ownBlock] at e
  · simp [Value.ownBlock] at e
    subst e
    exact Blk.ne hb (show Blk w g cur 27 from hg) ht rfl
theorem sizeTm : (Try.prog.info? 27).map (·.size) = some 3 := by kernel_rfl
/-- Where a timer lies. -/
theorem OwnT.at {w : World} {B : Nat} {v : Value} {h : List Tm} {i : Nat} {t : Tm} (ho : OwnT w B v h) (hi : h[i]? = some t) :
    ∃ g cap, v = .slice (some ⟨g, 0, none⟩) h.length cap ∧ h.length ≤ cap ∧ B ≤ g ∧ w.rangeAt g (i * 3) (tmL t) := by
  have hl := (List.getElem?_eq_some_iff.1 hi).1
  rcases ho.2 with ⟨_, he⟩ | ⟨g, cap, cur, hv, hb, _, hc, _⟩
  · have : h.length = 0 := by simpa using he
    omega
  · subst hv
    refine ⟨g, cap, rfl, hc, hb, fun j u hu => ?_⟩
    have hj : j < 3 := by
      rcases Nat.lt_or_ge j 3 with h3 | h3
      · exact h3
      · rw [List.getElem?_eq_none (by simpa [tmL] using h3)] at hu
        cases hu
    have := ho.cells (g := g) rfl (i * 3 + j) u ((tmL_at h i t hi j hj).trans hu)
    rw [Addr.add_lit, Nat.zero_add] at this
    exact this
theorem tm_load {w : World} {g o : Nat} {t : Tm} (h : w.rangeAt g o (tmL t)) : (Instr.loadAt 27 (.pointer (some ⟨g, o, none⟩))).run Try.prog w = .ok (.agg (tmA t)) w :=
  run_loadAt_mid w g o 27 (tmL t) _ h Try.underlying27 rfl sizeTm
/-- A timer is stored. -/
theorem OwnT.store {w : World} {B g cap : Nat} {h : List Tm} {i : Nat} (t : Tm) (ho : OwnT w B (.slice (some ⟨g, 0, none⟩) h.length cap) h) (hi : i < h.length) :
    ∃ w', (storeVar 27 ⟨g, i * 3, none⟩ (.agg (tmA t))).run Try.prog w = .ok () w' ∧ OwnT w' B (.slice (some ⟨g, 0, none⟩) (h.set i t).length cap) (h.set i t) ∧ Mod (fun k => k = g) w w' := by
  rcases ho.2 with ⟨h1, _⟩ | ⟨g', cap', cur, he, hb, hg, hc1, hc2, hs, ht⟩
  · cases h1
  · simp only [Value.slice.injEq, Option.some.injEq, Addr.mk.injEq, and_true, true_and] at he
    obtain ⟨rfl, rfl⟩ := he
    have hB : Blk w g cur 27 := hg
    have hsz : cur.size = cap * 3 := hs
    obtain ⟨w', C', hr, hB', hs', he', hM⟩ := blk_store (P := Try.prog) (i * 3) 27 hB (cells := tmA t) sizeTm (by show i * 3 + 3 ≤ _; omega) (tmA_one t)
    refine ⟨w', hr, ⟨by rw [tmL_len], .inr ⟨g, cap, C', rfl, hb, hB', by simpa using hc1, hc2, by rw [hs', hsz], ?_⟩⟩, hM⟩
    have e3 : (tmA t).size = 3 := rfl
    have hl := tmL_len h
    have hcl : cur.toList.length = cap * 3 := by simpa using hsz
    have key : cur.toList = h.flatMap tmL ++ cur.toList.drop (h.length * 3) := by
      have := List.take_append_drop (h.length * 3) cur.toList
      rw [ht] at this
      exact this.symm
    rw [tmL_set h i t hi, he', tmA_list, e3, List.length_set]
    generalize cur.toList.drop (h.length * 3) = rest at key
    have k1 : cur.toList.take (i * 3) = (h.flatMap tmL).take (i * 3) := by rw [key, List.take_append_of_le_length (by omega)]
    have k2 : cur.toList.drop (i * 3 + 3) = (h.flatMap tmL).drop (i * 3 + 3) ++ rest := by rw [key, List.drop_append_of_le_length (by omega)]
    rw [k1, k2, ← List.append_assoc]
    exact List.take_left' (by rw [List.length_append, List.length_append, List.length_take, List.length_drop, hl, show (tmL t).length = 3 from rfl]; omega)
end Go.Proofs.Ytodcadcapmhgfaa
