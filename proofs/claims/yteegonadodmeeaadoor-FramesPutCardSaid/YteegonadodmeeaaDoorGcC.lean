/- Frames of the call's own, read; the program's Eliciting; the laws' example's parts. -/
import Derived.Test.YteegonadodmeeaaDoorGbB
import Derived.Test.YteegonadodmeeaaDoorGcE
import Derived.Test.YteegonadodmeeaaDoorGaF
namespace Go.Proofs.YteegonadodmeeaaDoor
open Go.RowKit

theorem FrO.frv {w : World} {B : Nat} {f : Fr} {vd vr : Value} (h : FrO w B f (frL f vd vr)) (h1 : f.d.length ≤ 100000) (h2 : f.rs.length ≤ 100000) : FrV w f vd vr := by
  obtain ⟨ud, ur, he, ho, hr, ht⟩ := h
  simp only [frL, List.cons_append, List.nil_append, List.cons.injEq, true_and] at he
  obtain ⟨rfl, rfl, _⟩ := he
  exact ⟨ho.byts, hr.rgv, ht, by omega, by omega⟩
theorem flat_at : ∀ (css : List (List Value)) (i : Nat) (c : List Value) (_ : ∀ x ∈ css, x.length = 24) (_ : css[i]? = some c) (j : Nat) (_ : j < 24), css.flatten[i * 24 + j]? = c[j]?
  | [], i, c, _, h, _, _ => by simp at h
  | x :: l, 0, c, hl, h, j, hj => by
    simp at h
    subst h
    rw [List.flatten_cons, Nat.zero_mul, Nat.zero_add, List.getElem?_append_left (by rw [hl x (by simp)]; exact hj)]
  | x :: l, i + 1, c, hl, h, j, hj => by
    have := flat_at l i c (fun y hy => hl y (by simp [hy])) (by simpa using h) j hj
    rw [List.flatten_cons, List.getElem?_append_right (by rw [hl x (by simp)]; omega), hl x (by simp), show (i + 1) * 24 + j - 24 = i * 24 + j by omega]
    exact this
theorem FrsO.at {w : World} {B : Nat} : ∀ {l : List Fr} {css : List (List Value)} {i : Nat} {f : Fr}, FrsO w B l css → l[i]? = some f → ∃ c, css[i]? = some c ∧ FrO w B f c
  | [], _, i, f, _, h => by simp at h
  | g :: l, _, 0, f, ⟨c, cs, h1, h2, h3⟩, h => by
    simp at h
    subst h h1
    exact ⟨c, rfl, h2⟩
  | g :: l, _, i + 1, f, ⟨c, cs, h1, h2, h3⟩, h => by
    subst h1
    obtain ⟨c', e, hc⟩ := h3.at (i := i) (f := f) (by simpa using h)
    exact ⟨c', by simpa using e, hc⟩
theorem FrsO.all {w : World} {B : Nat} : ∀ {l : List Fr} {css : List (List Value)}, FrsO w B l css → ∀ x ∈ css, x.length = 24
  | [], _, h => by
    have : _ = [] := h
    subst this
    simp
  | f :: l, _, ⟨c, cs, h1, h2, h3⟩ => by
    subst h1
    intro x hx
    rcases List.mem_cons.1 hx with rfl | hx
    · exact h2.len
    · exact h3.all x hx
/-- A frame of a list, where it lies. -/
theorem OwnF.at {w : World} {B : Nat} {v : Value} {l : List Fr} {i : Nat} {f : Fr} (h : OwnF w B v l) (hi : l[i]? = some f) :
    ∃ g cap vd vr, v = .slice (some ⟨g, 0, none⟩) l.length cap ∧ FrO w B f (frL f vd vr) ∧ w.rangeAt g (i * 24) (frC f vd vr).toList := by
  obtain ⟨css, h1, h2⟩ := h
  obtain ⟨c, hc, hf⟩ := h1.at hi
  have hf2 := hf
  obtain ⟨vd, vr, rfl, _⟩ := hf
  rcases h2.2 with ⟨_, he⟩ | ⟨g, cap, cur, hv, _, _, _⟩
  · have : l.length = 0 := by simpa using congrArg id he
    have : l = [] := List.eq_nil_of_length_eq_zero this
    subst this
    simp at hi
  · subst hv
    refine ⟨g, cap, vd, vr, rfl, hf2, fun j u hu => ?_⟩
    have hj : j < 24 := by
      have : j < (frC f vd vr).toList.length := by
        rcases Nat.lt_or_ge j (frC f vd vr).toList.length with h | h
        · exact h
        · rw [List.getElem?_eq_none h] at hu
          cases hu
      have h24 := hf2.len
      simp only [frC] at this
      omega
    have e := flat_at css i _ h1.all hc j hj
    have hu' : (frL f vd vr)[j]? = some u := by simpa [frC] using hu
    have := h2.cells (g := g) rfl (i * 24 + j) u (e.trans hu')
    rw [Addr.add_lit, Nat.zero_add] at this
    exact this
theorem OwnF.load {w : World} {f : Fr} {vd vr : Value} {g o : Nat} (h : w.rangeAt g o (frC f vd vr).toList) (ht : f.t.length = 16) : (Instr.loadAt 27 (.pointer (some ⟨g, o, none⟩))).run Tryd.prog w = .ok (frV f vd vr) w :=
  run_loadAt_mid w g o 27 (frC f vd vr).toList _ h Tryd.underlying27 rfl (sizeFr f vd vr ht)
theorem range_kept {S : Nat → Prop} {w w' : World} {g o : Nat} {cs : List Value} (h : w.rangeAt g o cs) (hM : Mod S w w') (hS : ¬ S g) : w'.rangeAt g o cs := fun j v hv => hM.cellAt (h j v hv) hS
/-- Frames that are parsed are right, or none. -/
theorem nextF_right (s : RS) : rightF (nextF s).1 = true ∨ (nextF s).1 = Fr.zero := by
  unfold nextF
  split
  · exact .inr rfl
  · split
    · exact .inr rfl
    · unfold nextK
      split
      · next h => exact .inl h.2
      · exact .inr rfl
theorem finL_mem {acc : List Fr} {s : RS} {f : Fr} (h : f ∈ (finL acc s).1) : f ∈ acc := by
  unfold finL at h
  by_cases hc : (if acc = [] then s.fail 3 else s).e ≠ 0
  · rw [if_pos hc] at h; simp at h
  · rw [if_neg hc] at h; exact h
theorem parseN_right : ∀ (n : Nat) (acc : List Fr) (s : RS), (∀ f ∈ acc, rightF f = true ∨ f = Fr.zero) → ∀ f ∈ (parseN n acc s).1, rightF f = true ∨ f = Fr.zero
  | 0, acc, s, h => by
    intro f hf
    exact h f (finL_mem hf)
  | n + 1, acc, s, h => by
    intro f hf
    have hf' : f ∈ (if s.l = [] then finL acc s else parseN n (acc ++ [(nextF s).1]) (mostL acc.length (nextF s).2)).1 := hf
    split at hf'
    · exact h f (finL_mem hf')
    · refine parseN_right n _ _ (fun g hg => ?_) f hf'
      rcases List.mem_append.1 hg with hg | hg
      · exact h g hg
      · rw [List.mem_singleton.1 hg]
        exact nextF_right s
theorem parse_small (b : List UInt8) : ∀ f ∈ (parse66 b).1, f.d.length ≤ 100000 ∧ f.rs.length ≤ 100000 := by
  intro f hf
  rcases parseN_right 66 [] ⟨b, 0⟩ (fun f hf => by cases hf) f hf with h | h
  · have := right_len h
    omega
  · rw [h]; decide
set_option maxRecDepth 10000 in
theorem elic_any {w : World} {f : Fr} {vd vr : Value} : Calls Tryd.prog 19 #[frV f vd vr] w fun e w' => e = .returned (.bool (elicB f)) ∧ Mod (fun _ => False) w w' := by
  have e0 : (frC f vd vr)[0]? = some (.int .i64 f.k) := rfl
  have HE : Hid (elicB f = !(decide (f.k = 0) || decide (f.k = 2) || decide (f.k = 28))) := rfl
  generalize elicB f = R at *
  unfold frV
  generalize frC f vd vr = C at *
  generalize f.k = k at *
  go_enter Tryd.func19, Tryd.ntmps19
  go_wp2
  all_goals go_ret
  all_goals refine ⟨ret_bool ?_, (Mod.refl _ _).alloc _⟩
  all_goals (rw [HE.out, Bool.eq_iff_iff]; clear HE; simp_all)
/-- Contracts over what a slot has. -/
theorem fput_c {w : World} {f : Fr} {vd vr : Value} {C : Array Value} {L : List UInt8} {n : Nat} (hC : C = frC f vd vr) (hT : Tabs w) (hv : FrV w f vd vr) (hrl : (f.rs.length : Int) ≤ 100000) (hok : okKey f.k) (hro : RngOk f) (hL : fputL f = L) (hn : L.length = n) :
    Calls Tryd.prog 15 #[.agg C] w fun e w' => ∃ a c, e = .returned (.slice a n c) ∧ OwnB w' w.heap.size (.slice a n c) L ∧ Mod (fun _ => False) w w' := by
  subst hC hL hn
  refine (show Calls Tryd.prog 15 #[frV f vd vr] w _ from fput_any hT hv hrl hok hro).mono ?_
  rintro e w' ⟨v, rfl, ho, hM⟩
  obtain ⟨a, c, rfl, _⟩ := byts_val ho.byts
  exact ⟨a, c, rfl, ho, hM⟩
theorem parse_c {w : World} {v : Value} {b : List UInt8} {l : List Fr} {z : Int} (n : Nat) (hv : Byts w v b) (hl : (b.length : Int) ≤ 10000000) (hq : parse66 b = (l, z)) (hn : l.length = n) :
    Calls Tryd.prog 20 #[v] w fun e w' => ∃ a c, e = .returned (.tuple #[.slice a n c, .int .i64 z]) ∧ OwnF w' w.heap.size (.slice a n c) l ∧ Mod (fun _ => False) w w' := by
  subst hn
  refine (parse_any hv hl).mono ?_
  rintro e w' ⟨v', he, ho, hM⟩
  rw [hq] at he ho
  obtain ⟨a, c, rfl, _⟩ := ho.val
  exact ⟨a, c, he, ho, hM⟩
theorem right_c {w : World} {f : Fr} {vd vr : Value} {C : Array Value} (hC : C = frC f vd vr) (hv : FrV w f vd vr) (hrl : (f.rs.length : Int) ≤ 100000) (hok : okKey f.k) (hro : RngOk f) :
    Calls Tryd.prog 12 #[.agg C] w fun e w' => e = .returned (.bool (rightF f)) ∧ Mod (fun _ => False) w w' := by
  subst hC
  exact right_any hv hrl hok hro
theorem fsame_c {w : World} {f g : Fr} {vd vr ud ur : Value} {C D : Array Value} (hC : C = frC f vd vr) (hD : D = frC g ud ur) (hf : FrV w f vd vr) (hg : FrV w g ud ur) (hn : (f.rs.length : Int) ≤ 100000) (hm : (g.rs.length : Int) ≤ 100000) :
    Calls Tryd.prog 17 #[.agg C, .agg D] w fun e w' => e = .returned (.bool (sameF f g)) ∧ Mod (fun _ => False) w w' := by
  subst hC hD
  exact same_fr hf hg hn hm
theorem elic_c {w : World} {f : Fr} {vd vr : Value} {C : Array Value} (hC : C = frC f vd vr) : Calls Tryd.prog 19 #[.agg C] w fun e w' => e = .returned (.bool (elicB f)) ∧ Mod (fun _ => False) w w' := by
  subst hC
  exact elic_any
theorem same_c {w : World} {a b : Value} {la lb : List UInt8} (ha : Byts w a la) (hb : Byts w b lb) : Calls Tryd.prog 14 #[a, b] w fun e w' => e = .returned (.bool (decide (la = lb))) ∧ Mod (fun _ => False) w w' := by
  refine (same_any ha hb).mono ?_
  rintro e w' ⟨⟨q, rfl⟩, rfl⟩
  exact ⟨rfl, (Mod.refl _ _).drewN q⟩
end Go.Proofs.YteegonadodmeeaaDoor
