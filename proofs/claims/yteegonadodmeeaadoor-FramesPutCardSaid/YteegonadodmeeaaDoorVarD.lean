/- The contracts of the reader, and of the comparison of bytes. -/
import Derived.Test.YteegonadodmeeaaDoorVarC
import Derived.WalkSpells
namespace Go.Proofs.YteegonadodmeeaaDoor
open Go.RowKit

theorem byts_val {w : World} {v : Value} {l : List UInt8} (h : Byts w v l) : ∃ a cap, v = .slice a l.length cap ∧ l.length ≤ cap ∧ cap ≤ maxLen ∧ (a = none → cap = 0) := Sl.val h
theorem byts_addr {w : World} {v : Value} {l : List UInt8} (h : Byts w v l) (hx : l ≠ []) :
    ∃ b off cap, v = .slice (some ⟨b, off, none⟩) l.length cap ∧ l.length ≤ cap ∧ cap ≤ maxLen ∧ ∀ j x, l[j]? = some x → w.cell? ⟨b, off + j, none⟩ = some (bv x) := by
  obtain ⟨b, off, cap, h1, h2, h3, h4⟩ := Sl.addr h (by simpa using hx)
  exact ⟨b, off, cap, h1, h2, h3, fun j x hj => h4 j (bv x) (by simp [hj])⟩
theorem take_snoc {α : Type} (l : List α) (k : Nat) (x : α) (h : l[k]? = some x) : l.take (k + 1) = l.take k ++ [x] := by
  rw [List.take_add_one, h]; rfl

set_option maxRecDepth 10000 in
theorem same_lens {w : World} {a b : Value} {la lb : List UInt8} (ha : Byts w a la) (hb : Byts w b lb) (h : la.length ≠ lb.length) :
    Calls Tryd.prog 14 #[a, b] w fun e w' => w = w' ∧ e = .returned (.bool false) := by
  obtain ⟨aa, ca, rfl, h1, h2, _⟩ := byts_val ha
  obtain ⟨ab, cb, rfl, h3, h4, _⟩ := byts_val hb
  unfold maxLen at h2 h4
  have hne : ((la.length : Int) != lb.length) = true := by simp; omega
  clear ha hb h h1 h2 h3 h4
  generalize la.length = n at *
  generalize lb.length = m at *
  go_enter Tryd.func14, Tryd.ntmps14
  go_wp2
  go_ret
  exact ⟨rfl, rfl⟩
set_option maxRecDepth 10000 in
theorem same_empty {w : World} {a b : Value} (ha : Byts w a []) (hb : Byts w b []) :
    Calls Tryd.prog 14 #[a, b] w fun e w' => w = w' ∧ e = .returned (.bool true) := by
  obtain ⟨aa, ca, rfl, h1, h2, _⟩ := byts_val ha
  obtain ⟨ab, cb, rfl, h3, h4, _⟩ := byts_val hb
  clear ha hb h1 h2 h3 h4
  simp only [List.length_nil]
  go_enter Tryd.func14, Tryd.ntmps14
  go_wp2
  refine wp_loop_rounds 1 ?_
  rw [rounds_succ]
  go_wp2
  go_ret
  exact ⟨rfl, rfl⟩
set_option maxRecDepth 10000 in
theorem same_some {w : World} {a b : Value} {la lb : List UInt8} (ha : Byts w a la) (hb : Byts w b lb) (h : la.length = lb.length) (h0 : la ≠ []) :
    Calls Tryd.prog 14 #[a, b] w fun e w' => (∃ q, w.drewN q = w') ∧ e = .returned (.bool (decide (la = lb))) := by
  obtain ⟨b1, o1, c1, rfl, h1, h2, hc1⟩ := byts_addr ha h0
  obtain ⟨b2, o2, c2, rfl, h3, h4, hc2⟩ := byts_addr hb (by intro e; subst e; simp at h; exact h0 h)
  unfold maxLen at h2 h4
  obtain ⟨n, hn⟩ : ∃ n, n = la.length := ⟨_, rfl⟩
  rw [← h, ← hn]
  have hn2 : (n : Int) ≤ 9223372036854775807 := by omega
  have HN := Lib.hid hn
  have HL := Lib.hid h
  have HC1 := Lib.hid hc1
  have HC2 := Lib.hid hc2
  clear ha hb hn h hc1 hc2 h1 h2 h3 h4 h0
  go_enter Tryd.func14, Tryd.ntmps14
  go_wp2
  go_loopw [5] (fun i wr => ∃ k q : Nat, k ≤ n ∧ i = .int .i64 k ∧ w.drewN q = wr ∧ Hid (la.take k = lb.take k)) (fun i _ => n - (intOf i).toNat)
  case atStart => exact ⟨0, 0, Nat.zero_le _, rfl, rfl, rfl⟩
  case round =>
    obtain ⟨k, q, hk, rfl, rfl, HT⟩ := hrel
    by_cases hlt : (k : Int) < n
    · have hka : k < la.length := by have := HN.out; omega
      have hkb : k < lb.length := by have := HL.out; omega
      have e1 : la[k]? = some la[k] := List.getElem?_eq_getElem hka
      have e2 : lb[k]? = some lb[k] := List.getElem?_eq_getElem hkb
      have g1 : w.cell? ⟨b1, o1 + k, none⟩ = some (bv la[k]) := HC1.out k _ e1
      have g2 : w.cell? ⟨b2, o2 + k, none⟩ = some (bv lb[k]) := HC2.out k _ e2
      have HE1 := Lib.hid e1
      have HE2 := Lib.hid e2
      generalize la[k] = x at *
      generalize lb[k] = y at *
      unfold bv at g1 g2
      clear e1 e2 hka hkb
      by_cases hxy : x = y
      · subst hxy
        go_wp2
        go_quiet (fail)
        go_wp2
        go_roundw
        case rel => exact ⟨k + 1, _, by omega, by go_num, rfl, by show _ = _; rw [take_snoc _ _ _ HE1.out, take_snoc _ _ _ HE2.out, HT.out]⟩
        case measure => simp [intOf]; omega
      · have hb : ((x.toNat : Int) != y.toNat) = true := by
          simp only [bne_iff_ne, ne_eq, Int.natCast_inj, UInt8.toNat_inj]; exact hxy
        have HX := Lib.hid hxy
        clear hxy
        go_wp2
        go_quiet (fail)
        go_wp2
        go_ret
        refine ⟨⟨_, (World.drewN_drewN ..).symm⟩, ret_bool ?_⟩
        simp only [Bool.false_eq, decide_eq_false_iff_not]
        rintro rfl
        have := HE1.out.symm.trans HE2.out
        simp at this
        exact HX.out this
    · go_wp2
      go_ret
      have e : la = lb := by
        have h1 := HT.out
        rwa [List.take_of_length_le (by have := HN.out; omega), List.take_of_length_le (by have := HN.out; have := HL.out; omega)] at h1
      refine ⟨⟨_, rfl⟩, ret_bool ?_⟩
      simp [e]
theorem same_any {w : World} {a b : Value} {la lb : List UInt8} (ha : Byts w a la) (hb : Byts w b lb) :
    Calls Tryd.prog 14 #[a, b] w fun e w' => (∃ q, w.drewN q = w') ∧ e = .returned (.bool (decide (la = lb))) := by
  by_cases h : la.length = lb.length
  · by_cases h0 : la = []
    · subst h0
      obtain rfl : lb = [] := List.eq_nil_of_length_eq_zero (by simpa using h.symm)
      exact (same_empty ha hb).mono fun e w' ⟨h1, h2⟩ => ⟨⟨0, h1⟩, by simpa using h2⟩
    · exact same_some ha hb h h0
  · have : la ≠ lb := by rintro rfl; exact h rfl
    exact (same_lens ha hb h).mono fun e w' ⟨h1, h2⟩ => ⟨⟨0, h1⟩, by simpa [this] using h2⟩

set_option maxRecDepth 10000 in
theorem clone_any {w : World} {v : Value} {l : List UInt8} (h : Byts w v l) (hr : (l.length : Int) ≤ 140737488355328) :
    Calls Tryd.prog 92 #[v] w fun e w' => ∃ v', e = .returned v' ∧ OwnB w' w.heap.size v' l ∧ Mod (fun _ => False) w w' := by
  obtain ⟨a, cap, rfl, h1, h2, h3⟩ := byts_val h
  have hnil := fun (w : World) (a : Option Addr) (n c : Nat) => Lib.run_eql_slice_nil (P := Tryd.prog) w 23 5 a n c 0 0 Tryd.underlying23
  cases a with
  | none =>
    obtain rfl := h3 rfl
    obtain rfl : l = [] := List.eq_nil_of_length_eq_zero (by omega)
    clear h h1 h2 h3
    go_enter Tryd.func92, Tryd.ntmps92
    go_wp2
    go_ret
    exact ⟨_, rfl, OwnB.nil _ _, Mod.refl _ _⟩
  | some ad =>
    have H : Hid (Sl w 1 (.slice (some ad) l.length cap) l.length (l.map bv)) := h
    have HR := Lib.hid hr
    clear h h1 h2 hr h3
    obtain ⟨i0, hi, hz0, hz1, hz2⟩ := info_parts Tryd.info5
    generalize l.length = n at *
    go_enter Tryd.func92, Tryd.ntmps92
    go_wp2_with (at_builtin; go_must (refine wpList_append_sl rfl _ _ 23 rfl w.heap.size 5 i0 (.int .u8 0) 1 1 Tryd.underlying23 hi hz0 hz1 hz2 rfl (by decide) _ 0 [] rfl (World.ownsRow_made w #[] 0 (Nat.le_refl _) (by decide) rfl) _ n (l.map bv) rfl (H.out.kept ((Mod.refl (fun _ => False) w).alloc _) (fun _ _ h => h)) (bv_one l) (by have := HR.out; omega) (by decide) (by simp) ?_); intro v' w1 hown hgrow)
    go_ret
    have hl := H.out.1
    simp only [Nat.zero_add, List.nil_append] at hown
    refine ⟨v', rfl, ?_, ((Mod.refl _ w).alloc _).grown hgrow (fun k hk hlt => Nat.lt_irrefl _ ((Option.some.inj hk).symm ▸ hlt))⟩
    unfold OwnB
    have e : l.length = n := by simpa using hl
    rw [e]
    exact hown
end Go.Proofs.YteegonadodmeeaaDoor
