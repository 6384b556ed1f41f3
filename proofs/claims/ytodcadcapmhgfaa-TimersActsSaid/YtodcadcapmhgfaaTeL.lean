/- All timers, in order: the program's, by the shelf's sort. -/
import Derived.Test.YtodcadcapmhgfaaTeJ
import Derived.Test.YtodcadcapmhgfaaTeN
import Derived.Shelf.Lay
import Derived.Ground.SlsfProg
import Derived.Ground.NamesProg
namespace Go.Proofs
open Go.Shelf
shelf_lay_g SlLaysF0.n6 Slsf 6 at Try 30 as Try.laysSort
end Go.Proofs
namespace Go.Proofs.Ytodcadcapmhgfaa
open Go.RowKit Go.Shelf Go.Sort

instance : Inhabited Tm := ⟨tm0⟩
theorem lt_ahd (x y : Tm) : ltOf ahdZ x y = ahd x y := ahdZ_neg x y
theorem swo_tm : SWO (ltOf ahdZ) where
  irrefl x := by rw [lt_ahd]; exact ahd_irrefl x
  trans x y z h1 h2 := by rw [lt_ahd] at *; exact ahd_trans h1 h2
  ntrans x y z h1 h2 := by rw [lt_ahd] at *; exact nah_trans h1 h2
theorem cmp_lays (blk off size : Nat) (w : World) : CmpLays Try.prog 31 #[] tmL 3 ahdZ blk off size w :=
  fun _ _ _ _ x y => (ahead_gr x y _).mono fun _ _ ⟨h1, h2⟩ => ⟨h1, h2.grow⟩
theorem mod_sort (w : World) (g n : Nat) (d : Array Tm) (os : Array Obj) : Mod (fun k => k = g) w (sortWorldK tmL 3 w g 0 n d os) := by
  refine ⟨rfl, rfl, rfl, ?_, fun k hk hs => ?_⟩
  · simp [sortWorldK, grow, putRowK, putRow, mapBlock]
  · have hk' : k < (w.heap.modify g (onCells (putCells id 0 (flatK tmL 3 d)))).size := by simpa using hk
    show ((w.heap.modify g (onCells (putCells id 0 (flatK tmL 3 d)))) ++ os)[k]? = w.heap[k]?
    rw [Array.getElem?_append_left hk', Array.getElem?_modify, if_neg (fun e => hs e.symm)]
theorem flat_get (d : List Tm) (j : Nat) (u : Value) (hu : (d.flatMap tmL)[j]? = some u) : (flatK tmL 3 d.toArray)[j]! = u := by
  obtain ⟨i, t, k, h1, h2, rfl⟩ := flat_inv tmL_3 d j u hu
  have hi := (List.getElem?_eq_some_iff.1 h1).1
  have hk : k < 3 := by have := (List.getElem?_eq_some_iff.1 h2).1; simpa [tmL] using this
  rw [get_flatK _ _ _ _ (by simp; omega), show (i * 3 + k) / 3 = i by omega, show (i * 3 + k) % 3 = k by omega]
  have e1 : d.toArray[i]! = t := by
    rw [getElem!_pos _ i (by simpa using hi)]
    simpa using (List.getElem?_eq_some_iff.1 h1).2
  rw [e1]
  have h3 := (List.getElem?_eq_some_iff.1 h2).1
  rw [getElem!_pos _ k h3]
  exact (List.getElem?_eq_some_iff.1 h2).2
theorem holds_of {w : World} {B g n cap : Nat} {h : List Tm} (ho : OwnT w B (.slice (some ⟨g, 0, none⟩) n cap) h) : HoldsK tmL 3 w g 0 h.toArray := by
  intro j hj
  have hj' : j < (h.flatMap tmL).length := by rw [tmL_len]; simpa using hj
  obtain ⟨u, hu⟩ : ∃ u, (h.flatMap tmL)[j]? = some u := ⟨_, List.getElem?_eq_getElem hj'⟩
  have hc := World.ownsRow.cells ho (g := g) rfl j u hu
  obtain ⟨_, cur, hb⟩ := ho.blk
  rw [Addr.add_lit] at hc
  refine ⟨?_, hb.free _⟩
  rw [flat_get h j u hu]
  exact hc
theorem sorted_pw : ∀ {l : List Tm}, l.Pairwise (fun a b => ahd b a = false) → l.Nodup → SortedT l
  | [], _, _ => trivial
  | a :: l, hp, hn => by
    rw [List.pairwise_cons] at hp
    rw [List.nodup_cons] at hn
    refine ⟨fun b hb => ?_, sorted_pw hp.2 hn.2⟩
    cases hab : ahd a b with
    | true => rfl
    | false => exact absurd (nah_both hab (hp.1 b hb)) (fun e => hn.1 (e ▸ hb))
theorem nodup_s : ∀ {l : List Tm}, SortedT l → l.Nodup
  | [], _ => List.nodup_nil
  | a :: l, h => List.nodup_cons.2 ⟨(fun ha => by have := h.1 a ha; rw [ahd_irrefl] at this; cases this), nodup_s h.2⟩
theorem merge_eq {h L : List Tm} (hp : h.Perm L) (hs : SortedT L) : (h.mergeSort fun x y => !(ltOf ahdZ) y x) = L := by
  have h1 := List.mergeSort_perm h (fun x y => !(ltOf ahdZ) y x)
  have h2 := List.pairwise_mergeSort (le := fun x y => !(ltOf ahdZ) y x) (fun a b c => by
    simp only [lt_ahd, Bool.not_eq_eq_eq_not]
    intro e1 e2
    exact nah_trans e2 e1) (fun a b => by
    simp only [lt_ahd, Bool.or_eq_true, Bool.not_eq_true']
    cases hab : ahd a b with
    | false => exact .inr rfl
    | true => exact .inl (ahd_asymm hab)) h
  refine SortedT.eq (sorted_pw (h2.imp fun {a b} e => ?_) ?_) hs (h1.trans hp)
  · simp only [lt_ahd, Bool.not_eq_true'] at e
    exact e
  · exact (h1.trans hp).nodup_iff.2 (nodup_s hs)
set_option maxRecDepth 10000 in
theorem clone_tm {w : World} {v : Value} {l : List Tm} (h : TmV w v l) (hr : l.length ≤ 200) :
    Calls Try.prog 29 #[v] w fun e w' => ∃ v', e = .returned v' ∧ OwnT w' w.heap.size v' l ∧ Mod (fun _ => False) w w' := by
  obtain ⟨a, cap, rfl, h1, h2, h3⟩ := h.val
  have hnil := fun (w : World) (a : Option Addr) (n c : Nat) => Lib.run_eql_slice_nil (P := Try.prog) w 34 27 a n c 0 0 Try.underlying34
  cases a with
  | none =>
    obtain rfl := h3 rfl
    obtain rfl : l = [] := List.eq_nil_of_length_eq_zero (by omega)
    clear h h1 h2 h3
    go_enter Try.func29, Try.ntmps29
    go_wp2
    go_ret
    exact ⟨_, rfl, OwnT.nil _ _, Mod.refl _ _⟩
  | some ad =>
    have H : Hid (Sl w 3 (.slice (some ad) l.length cap) l.length (l.flatMap tmL)) := h
    have HR := Lib.hid hr
    have H1 : Hid (∀ u ∈ l.flatMap tmL, u.oneCell' = true) := Lib.hid (fun u hu => by
      obtain ⟨t, _, ht⟩ := List.mem_flatMap.1 hu
      exact tmA_one t u ht)
    have HT := Lib.hid (tmL_len l)
    clear h h1 h2 hr h3
    obtain ⟨i0, hi, hz0, hz1, hz2⟩ := info_parts' infoTm
    generalize l.length = n at *
    go_enter Try.func29, Try.ntmps29
    go_wp2_with (at_builtin; go_must (refine wpList_append_sl rfl _ _ 34 rfl w.heap.size 27 i0 _ 3 24 Try.underlying34 hi hz0 hz1 hz2 rfl (by decide) _ 0 [] rfl (World.ownsRow_made w #[] 0 (Nat.le_refl _) (by decide) rfl) _ n (l.flatMap tmL) rfl (H.out.kept ((Mod.refl (fun _ => False) w).alloc _) (fun _ _ h => h)) H1.out (by have := HR.out; omega) (by decide) (by simp) ?_); intro v' w1 hown hgrow)
    go_ret
    have hl := H.out.1
    simp only [Nat.zero_add, List.nil_append] at hown
    refine ⟨v', rfl, ?_, ((Mod.refl _ w).alloc _).grown hgrow (fun k hk hlt => Nat.lt_irrefl _ ((Option.some.inj hk).symm ▸ hlt))⟩
    unfold OwnT
    have e : l.length = n := by have h5 := tmL_len l; have h6 := HT.out; omega
    rw [e]
    exact hown
/-- Behind List. -/
def ListR (w0 w : World) (L : List Tm) (e : Ending) : Prop :=
  ∃ v, e = .returned v ∧ TmV w v L ∧ Mod (fun _ => False) w0 w ∧ ∀ g, L ≠ [] → blockOf v = some g → w0.heap.size ≤ g
theorem eg_ahead : ∀ args w, (callFunc 31 args).run Try.prog w = .ok (.enter 31 args) w := enters_of Try.func31 (by kernel_rfl) rfl
theorem agg_tm : ∀ w, (isAgg 27).run Try.prog w = .ok true w := fun w => by kernel_rfl
theorem size_ofTm : ∀ w, (Go.sizeOf 27).run Try.prog w = .ok 3 w := fun w => by kernel_rfl
theorem sort_nil (p : Option Addr) (cap : Nat) (w : World) : Calls Try.prog 30 #[.slice p 0 cap, .func (.func 31) #[] #[]] w fun e w' => w = w' ∧ e = .returned (.tuple #[]) := by
  have h := AnyF.slices_SortFunc_none Try.laysSort p cap (.func (.func 31) #[] #[]) w
  change Calls Try.prog 30 _ _ _ at h
  exact h.mono fun e w' ⟨h1, h2⟩ => ⟨h2.symm, h1⟩
theorem sort_some {w : World} {B g n cap : Nat} {h L : List Tm} (ho : OwnT w B (.slice (some ⟨g, 0, none⟩) n cap) h) (hn : n = h.length) (hp : h.Perm L) (hl : QL L) :
    Calls Try.prog 30 #[.slice (some ⟨g, 0, none⟩) n cap, .func (.func 31) #[] #[]] w fun e w' => e = .returned (.tuple #[]) ∧ TmV w' (.slice (some ⟨g, 0, none⟩) n cap) L ∧ Mod (fun k => k = g) w w' := by
  subst hn
  obtain ⟨_, cur, hb⟩ := ho.blk
  have hcap := Sl.val (Sl.ofOwn ho)
  have hlen := hp.length_eq
  have h200 := hl.n
  have hc := AnyQ.slices_SortFunc_total Try.laysSort 3 agg_tm size_ofTm tmL tmL_3 (fun x v hv => tmA_one x v hv) ahdZ swo_tm 31 #[] g 0 cap h.toArray w eg_ahead (cmp_lays g 0 _ w) (holds_of ho) hb.lt (by simp; omega)
    (fun x y e1 e2 => by rw [lt_ahd] at e1 e2; exact nah_both e1 e2)
  change Calls Try.prog 30 _ _ _ at hc
  rw [show h.toArray.size = h.length by simp] at hc
  refine hc.mono fun e w' ⟨h1, k, os, hw⟩ => ⟨h1, ?_, ?_⟩
  · subst hw
    rw [show h.toArray.toList = h by simp, merge_eq hp hl.s]
    have hh := holdsK_sortWorldK_c tmL 3 w g 0 h.toArray L.toArray k os (holds_of ho) hb.lt (by simp [hlen])
    obtain ⟨a, c, he, h2, h3, _⟩ := hcap
    simp only [Value.slice.injEq] at he
    obtain ⟨rfl, -, rfl⟩ := he
    refine ⟨by rw [tmL_len], some ⟨g, 0, none⟩, cap, by rw [hlen], by omega, h3, (fun e => by cases e), fun j u hu => ⟨g, 0, rfl, ?_⟩⟩
    have hj : j < (flatK tmL 3 L.toArray).size := by
      have := (List.getElem?_eq_some_iff.1 hu).1
      rw [tmL_len] at this
      simpa using this
    have := (hh j hj).1
    rw [flat_get L j u hu] at this
    exact this
  · subst hw
    exact mod_sort w g k _ os
theorem list_nil (w : World) : Calls Try.prog 15 #[.pointer none] w fun e w' => w = w' ∧ e = .returned (.slice none 0 0) := by
  go_enter Try.func15, Try.ntmps15
  go_wp2_with fail
  go_ret
  exact ⟨rfl, rfl⟩
set_option maxHeartbeats 4000000 in
theorem list_any {w : World} {B qb mb N : Nat} {v : Value} {L : List Tm} (q : QOk w B qb v mb N L) :
    Calls Try.prog 15 #[.pointer (some ⟨qb, 0, none⟩)] w fun e w' => ListR w w' L e := by
  have HQ := Lib.hid q
  obtain ⟨⟨n, h, f, h1, h2, h3, h4, h5⟩, hl, hk⟩ := q
  have c0 : w.cell? ⟨qb, 0, none⟩ = some v := h1.blk.cellAt 0 rfl
  have HT : Hid (TmV w v h) := Lib.hid (Sl.ofOwn h1.own)
  have HP : Hid (h.Perm L ∧ QL L ∧ h.length ≤ 200) := Lib.hid ⟨h4, hl, by rw [h4.length_eq]; exact hl.n⟩
  clear h1 h2 h3 h4 h5 hl hk
  go_enter Try.func15, Try.ntmps15
  go_upto_region 4 with (first
    | (go_at_call 29; refine (clone_tm HT.out HP.out.2.2).mono ?_; rintro e w1 ⟨v1, rfl, ho1, hM1⟩; have HO1 := Lib.hid (And.intro ho1 hM1); clear ho1 hM1)
    | fail)
  by_cases h0 : h = []
  · subst h0
    obtain ⟨a, cap, rfl, -⟩ := Sl.val (Sl.ofOwn HO1.out.1)
    go_wp2_with (first
      | (go_at_call 30; refine (sort_nil a cap _).mono ?_; rintro e w2 ⟨rfl, rfl⟩)
      | fail)
    go_ret
    have e := List.Perm.nil_eq HP.out.1
    subst e
    exact ⟨_, rfl, Sl.ofOwn HO1.out.1, HO1.out.2, fun g hg => absurd rfl hg⟩
  · obtain ⟨x, hx⟩ : ∃ x, h[0]? = some x := by
      cases h with
      | nil => exact absurd rfl h0
      | cons x r => exact ⟨x, rfl⟩
    obtain ⟨g, cap, rfl, hcap, hg, -⟩ := HO1.out.1.at hx
    have HG := Lib.hid hg
    obtain ⟨m, hm⟩ : ∃ m, m = h.length := ⟨_, rfl⟩
    have HM := Lib.hid hm
    rw [← hm] at HO1 ⊢
    clear hm hcap hg hx h0
    go_wp2_with (first
      | (go_at_call 30; refine (sort_some HO1.out.1 HM.out HP.out.1 HP.out.2.1).mono ?_; rintro e w2 ⟨rfl, hs, hM2⟩; have HS := Lib.hid (And.intro hs hM2); clear hs hM2)
      | fail)
    go_ret
    exact ⟨_, rfl, HS.out.1, HO1.out.2.trans' HS.out.2 (fun k hk e => by have := HG.out; omega), fun g' _ hg' => by
      have e : g = g' := Option.some.inj hg'
      rw [← e]
      exact HG.out⟩
end Go.Proofs.Ytodcadcapmhgfaa
