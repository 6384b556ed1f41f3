/- A region that draws its order, with a condition that need not hold behind ONE operation that all wait for (a closing store). General. -/
import Derived.Deep.RegionHeld
namespace Go.Proofs.Ytodcadcapmhgfaa

section
variable {P : Program} {ops : Array Oper} {Q : Exit → Act → World → Prop} {md : Region.Mode} {S : World → Prop} {last : Nat}

def wpAnyL (P : Program) (md : Region.Mode) (ops : Array Oper) (Q : Exit → Act → World → Prop) (S : World → Prop) (last : Nat) : Nat → Array Bool → Act → World → Prop
  | 0, listed, a, w => Region.ready md ops listed = [] ∧ Q .normal a w
  | n + 1, listed, a, w => (Region.ready md ops listed = [] → Q .normal a w) ∧
    ∀ i ∈ Region.ready md ops listed, wpOp P ops Q i (fun a' w' => (i ≠ last → S w') ∧ wpAnyL P md ops Q S last n (listed.setIfInBounds i true) a' w') a w

theorem wpAnyL.any : ∀ (n : Nat) (listed : Array Bool) (a : Act) (w : World), wpAnyL P md ops Q S last n listed a w → wpAny P md ops Q n listed a w
  | 0, _, _, _, h => h
  | n + 1, _, _, _, h => ⟨h.1, fun i hi => wpOp_mono (fun a' w' k => wpAnyL.any n _ a' w' k.2) (h.2 i hi)⟩

/-- Those of a region that wait for 'i': 'i' itself first. -/
def waitsFor (md : Region.Mode) (ops : Array Oper) (i : Nat) : List Nat :=
  (List.range ops.size).foldl (fun D k => if D.contains k then D else if ((ops[k]?).map fun o => o.after.any fun e => Region.binds md e && D.contains e.on).getD false then k :: D else D) [i]
/-- Nobody of 'D' has come up; each of it waits for another of it, 'i' alone aside. -/
def Behind (md : Region.Mode) (ops : Array Oper) (listed : Array Bool) (i : Nat) (D : List Nat) : Bool :=
  D.all fun k => !listed.getD k true && (k == i || ((ops[k]?).map fun o => o.after.any fun e => Region.binds md e && D.contains e.on).getD false)
theorem behind_not {listed : Array Bool} {i j : Nat} {D : List Nat} (h : Behind md ops listed i D = true) (hj : j ∈ Region.ready md ops listed) (hne : j ≠ i) : j ∉ D := by
  intro hd
  obtain ⟨hu, o, ho, hall⟩ := mem_ready.1 hj
  unfold Behind at h
  rw [List.all_eq_true] at h
  have hjj := h j hd
  rw [Bool.and_eq_true, Bool.or_eq_true] at hjj
  rcases hjj.2 with e | e
  · exact hne (by simpa using e)
  · rw [ho, Option.map_some, Option.getD_some, Array.any_eq_true'] at e
    obtain ⟨x, hx, hb⟩ := e
    rw [Bool.and_eq_true] at hb
    have h1 := hall x hx hb.1
    have h2 := h x.on (by simpa using hb.2)
    rw [Bool.and_eq_true] at h2
    have h3 : listed.getD x.on true = false := by simpa using h2.1
    rcases Nat.lt_or_ge x.on listed.size with hl | hl
    · simp [hl] at h1 h3
      rw [h1] at h3
      cases h3
    · simp [Array.getElem?_eq_none hl] at h1
theorem behind_set {listed : Array Bool} {i j : Nat} {D : List Nat} (h : Behind md ops listed i D = true) (hj : j ∉ D) : Behind md ops (listed.setIfInBounds j true) i D = true := by
  unfold Behind at *
  rw [List.all_eq_true] at *
  intro k hk
  have hjk : j ≠ k := fun e => hj (e ▸ hk)
  rw [getD_set_ne true hjk]
  exact h k hk

theorem wpAnyL.first {i : Nat} {oi : Oper} {v : Value} {D : List Nat} (hi : ops[i]? = some oi) (hsel : ∀ (j : Nat) (o : Oper) cs b, ops[j]? = some o → o.op ≠ .select cs b)
    (hQ : ∀ c a w, Q (.panic c) (a.put oi.dst v) w → Q (.panic c) a w) (hD : last ∈ D) (hil : i ≠ last) :
    ∀ (n : Nat) (listed : Array Bool) (a : Act) (w : World),
      (∀ j oj, ops[j]? = some oj → j ≠ i → listed.getD j true = false → (∀ e ∈ oj.after, Region.binds md e = true → e.on ≠ i) → oi.apart ops oj = true) →
      Behind md ops listed i D = true → i ∈ Region.ready md ops listed → YieldsIf P ops S oi v a → S w →
      wpAnyL P md ops Q S last n (listed.setIfInBounds i true) (a.put oi.dst v) w → wpAnyL P md ops Q S last (n + 1) listed a w := by
  intro n
  induction n with
  | zero =>
    intro listed a w _ hb hr hy hS H
    refine ⟨fun e => absurd hr (by rw [e]; simp), fun j hj => ?_⟩
    by_cases hji : j = i
    · subst hji
      exact hy.wpOp hi hS ⟨fun _ => hS, H⟩
    · have k := ready_mono hj hji
      rw [H.1] at k
      exact absurd k (by simp)
  | succ n ih =>
    intro listed a w hfree hb hr hy hS H
    refine ⟨fun e => absurd hr (by rw [e]; simp), fun j hj => ?_⟩
    by_cases hji : j = i
    · subst hji
      exact hy.wpOp hi hS ⟨fun _ => hS, H⟩
    · have hjD := behind_not hb hj hji
      have hjl : j ≠ last := fun e => hjD (e ▸ hD)
      obtain ⟨hun, oj, hoj, hall⟩ := mem_ready.1 hj
      have hui := (mem_ready.1 hr).1
      have hno : ∀ e ∈ oj.after, Region.binds md e = true → e.on ≠ i := by
        intro e he hbe heq
        have h1 := hall e he hbe
        rw [heq] at h1
        rcases Nat.lt_or_ge i listed.size with hl | hl
        · simp [hl] at hui h1
          rw [hui] at h1
          cases h1
        · simp [Array.getElem?_eq_none hl] at h1
      have step := wpOp_putIf hoj (hfree j oj hoj hji hun hno) (fun cs b => hsel i oi cs b hi) (fun cs b => hsel j oj cs b hoj) hQ hy (H.2 j (ready_mono hj hji))
      refine wpOp_mono (fun a' w' h3 => ⟨h3.2.1, ?_⟩) step
      refine ih (listed.setIfInBounds j true) a' w' (fun k ok hk hki hu hn => hfree k ok hk hki ?_ hn) (behind_set hb hjD) (ready_mono hr (Ne.symm hji)) h3.1 (h3.2.1 hjl) ?_
      · by_cases hjk : j = k
        · subst hjk; exact hun
        · rwa [getD_set_ne true hjk] at hu
      · rw [Array.setIfInBounds_comm _ _ hji]
        exact h3.2.2

theorem takeL {i : Nat} {oi : Oper} {v : Value} {n : Nat} {listed : Array Bool} {a : Act} {w : World} (d : Option Tmp) (hi : ops[i]? = some oi) (hd : oi.dst = d)
    (hs : Region.noSelect ops = true) (hf : Region.free md ops listed i = true) (hr : (Region.ready md ops listed).contains i = true)
    (hb : ((waitsFor md ops i).contains last && i != last && Behind md ops listed i (waitsFor md ops i)) = true)
    (hQ : ∀ c a w, Q (.panic c) (a.put d v) w → Q (.panic c) a w) (hy : YieldsIf P ops S oi v a) (hS : S w)
    (h : wpAnyL P md ops Q S last n (listed.setIfInBounds i true) (a.put d v) w) : wpAnyL P md ops Q S last (n + 1) listed a w := by
  subst hd
  rw [Bool.and_eq_true, Bool.and_eq_true] at hb
  exact wpAnyL.first hi (Region.noSelect_spec hs) hQ (by simpa using hb.1.1) (by simpa using hb.1.2) n listed a w (Region.free_spec hi hf) hb.2 (by simpa using hr) hy hS h
def AllReadyL (P : Program) (md : Region.Mode) (ops : Array Oper) (Q : Exit → Act → World → Prop) (S : World → Prop) (last n : Nat) (listed : Array Bool) (a : Act) (w : World) (rs : List Nat) : Prop :=
  ∀ i ∈ rs, wpOp P ops Q i (fun a' w' => (i ≠ last → S w') ∧ wpAnyL P md ops Q S last n (listed.setIfInBounds i true) a' w') a w
theorem AllReadyL.nil {n : Nat} {listed : Array Bool} {a : Act} {w : World} : AllReadyL P md ops Q S last n listed a w [] := fun _ h => by cases h
/-- One that comes up, and S behind it (not behind the last). -/
theorem AllReadyL.cons {n : Nat} {listed : Array Bool} {a : Act} {w : World} {i : Nat} {o : Oper} {rs : List Nat} (ho : ops[i]? = some o) (hl : i ≠ last)
    (h : ∀ K' : Act → World → Prop, Shut (∀ a w, S w → (S w → wpAnyL P md ops Q S last n (listed.setIfInBounds i true) a w) → K' a w) → if Region.wanted o (yielded ops a.tmps) = true then Oper.wp P o a w K' Q else K' (a.put o.dst undef) w)
    (hs : AllReadyL P md ops Q S last n listed a w rs) : AllReadyL P md ops Q S last n listed a w (i :: rs) := fun j hj => by
  rcases List.mem_cons.1 hj with e | hj
  · subst e
    exact wpOp_step ho (fun K' hK => h K' (fun a w hS hW => hK a w ⟨fun _ => hS, hW hS⟩))
  · exact hs j hj
/-- The last comes up. -/
theorem AllReadyL.closing {n : Nat} {listed : Array Bool} {a : Act} {w : World} {o : Oper} (ho : ops[last]? = some o)
    (h : ∀ K' : Act → World → Prop, Shut (∀ a w, wpAnyL P md ops Q S last n (listed.setIfInBounds last true) a w → K' a w) → if Region.wanted o (yielded ops a.tmps) = true then Oper.wp P o a w K' Q else K' (a.put o.dst undef) w) :
    AllReadyL P md ops Q S last n listed a w [last] := fun j hj => by
  obtain rfl : j = last := by simpa using hj
  exact wpOp_step ho (fun K' hK => h K' (fun a w hW => hK a w ⟨fun e => absurd rfl e, hW⟩))
theorem wpAnyL.ready {rs : List Nat} {n : Nat} {listed : Array Bool} {a : Act} {w : World} (hr : Region.ready md ops listed = rs) (hne : rs ≠ [])
    (h : AllReadyL P md ops Q S last n listed a w rs) : wpAnyL P md ops Q S last (n + 1) listed a w := ⟨fun e => absurd (hr ▸ e) hne, hr ▸ h⟩
theorem wpAnyL.done {listed : Array Bool} {a : Act} {w : World} (hr : Region.ready md ops listed = []) (h : Q .normal a w) : ∀ n, wpAnyL P md ops Q S last n listed a w
  | 0 => ⟨hr, h⟩
  | _ + 1 => ⟨fun _ => h, by rw [hr]; simp⟩
theorem wp_region_last {id : Nat} {a : Act} {w : World} (last : Nat) (hm : P.follows .mixedOrders = true) (hS : S w.drew)
    (h : S w.drew → wpAnyL P .any ops Q S last ops.size (Array.replicate ops.size false) a w.drew) : (Code.region id ops true).wp P Q a w :=
  wp_region_any hm (wpAnyL.any _ _ _ _ (h hS))
end
end Go.Proofs.Ytodcadcapmhgfaa
