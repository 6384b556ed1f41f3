/- Parts of the proof: KbQ IMap SoA SsA SrA SrB SrC SrD. -/
import Derived.Test.YtahgidkpjmecdaaGreatDoorB01
import Derived.Test.YtahgidkpjmecdaaGreatDoorB03
import Derived.Test.YtahgidkpjmecdaaGreatDoorB05
import Derived.Test.YtahgidkpjmecdaaGreatDoorProg
import Derived.Maps.OwnOps
import Derived.Maps.OwnSet
import Derived.Maps.Views
import Derived.Maps.RangeWalk
import Derived.Lib.Hide
import Derived.Sort.AssemblyPlain
import Derived.Sort.Grow
import Derived.WalkKit
import Derived.BigGuard
import Derived.BigCall
import Derived.CellFam
import Derived.Deep.Draws
import Derived.Deep.QuietTactic
import Derived.BigQuiet
import Derived.Deep.RegionHeld
import Derived.Deep.Cut
import Derived.Deep.DeepCutAuto
import Derived.WalkMore
import Derived.WalkSpells
import Derived.WalkLawsBesides
set_option maxRecDepth 100000
namespace Go.Proofs.YtahgidkpjmecdaaGreatDoor
open Go.RowKit
theorem entp_kinds_10 : Enter 150 := fun _ _ => by kernel_rfl
theorem entp_kinds_11 : Enter 151 := fun _ _ => by kernel_rfl
theorem entp_kinds_20 : Enter 164 := fun _ _ => by kernel_rfl
theorem kind_cases {k : Int} {m : Mk} (h : maskK k = some m) : k = 0 ∨ k = 1 ∨ k = 2 ∨ k = 4 ∨ k = 5 ∨ k = 6 ∨ k = 7 ∨ k = 8 ∨ k = 16 ∨ k = 17 ∨ k = 18 ∨ k = 20 ∨ k = 21 ∨ k = 22 ∨ k = 24 ∨ k = 25 ∨ k = 26 ∨ k = 27 ∨ k = 28 ∨ k = 30 := by
 unfold maskK at h
 split at h
 ·unfold maskN at h
  split at h <;> first | omega | cases h
 ·cases h
theorem right_parts {f : Fr} (h : rightF f = true) : ∃ m, maskK f.k = some m ∧ topB f = true ∧ f = onlyF m f ∧ okN f.k.toNat f = true := by
 unfold rightF at h
 split at h
 ·cases h
 ·rename_i m hm
  simp only [Bool.and_eq_true, sameF, decide_eq_true_eq] at h
  exact ⟨m, hm, h.1.1, h.1.2, h.2⟩
theorem fl_of {f : Fr} (h : rightF f = true) (hk : f.k ≠ 8 ∧ f.k ≠ 18 ∧ f.k ≠ 22 ∧ f.k ≠ 28) : f.fl = false := by
 obtain ⟨m, hm, _, he, _⟩ := right_parts h
 have hfl : f.fl = (onlyF m f).fl := congrArg Fr.fl he
 have hm2 := hm
 rcases kind_cases hm with h | h | h | h | h | h | h | h | h | h | h | h | h | h | h | h | h | h | h | h <;> (rw [h] at hm2; first | omega | (obtain rfl := Option.some.inj hm2; rw [hfl]; rfl))
theorem ok_at {f : Fr} (h : rightF f = true) {k : Nat} (hk : f.k = (k : Int)) : okN k f = true := by
 obtain ⟨m, hm, _, he, ho⟩ := right_parts h
 rw [hk] at ho
 exact ho
theorem tag_plain {f : Fr} (h : rightF f = true) (hk : f.k ≠ 8 ∧ f.k ≠ 18 ∧ f.k ≠ 22 ∧ f.k ≠ 28) (h0 : 0 ≤ f.k) : (tagN f : Int) = f.k := by
 unfold tagN
 rw [if_neg hk.1, fl_of h hk]
 simp; omega
theorem right_len {f : Fr} (h : rightF f = true) : f.d.length ≤ 1200 ∧ f.rs.length ≤ 16 := by
 obtain ⟨m, hm, _, he, ho⟩ := right_parts h
 have hd : f.d = (onlyF m f).d := congrArg Fr.d he
 have hr : f.rs = (onlyF m f).rs := congrArg Fr.rs he
 have hm2 := hm
 rcases kind_cases hm with hk | hk | hk | hk | hk | hk | hk | hk | hk | hk | hk | hk | hk | hk | hk | hk | hk | hk | hk | hk
 ·rw [hk] at hm2 ho
  obtain rfl := Option.some.inj hm2
  have h1 : f.d = [] := hd
  have h2 : f.rs = [] := hr
  rw [h1, h2]
  exact ⟨by simp, by simp⟩
 ·rw [hk] at hm2 ho
  obtain rfl := Option.some.inj hm2
  have h1 : f.d = [] := hd
  have h2 : f.rs = [] := hr
  rw [h1, h2]
  exact ⟨by simp, by simp⟩
 ·rw [hk] at hm2 ho
  obtain rfl := Option.some.inj hm2
  have h1 : okN 2 f = true := ho
  simp only [okN, rangesB, Bool.and_eq_true, decide_eq_true_eq] at h1
  have h2 : f.d = [] := hd
  rw [h2]
  exact ⟨by simp, h1.2⟩
 ·rw [hk] at hm2 ho
  obtain rfl := Option.some.inj hm2
  have h1 : f.d = [] := hd
  have h2 : f.rs = [] := hr
  rw [h1, h2]
  exact ⟨by simp, by simp⟩
 ·rw [hk] at hm2 ho
  obtain rfl := Option.some.inj hm2
  have h1 : f.d = [] := hd
  have h2 : f.rs = [] := hr
  rw [h1, h2]
  exact ⟨by simp, by simp⟩
 ·rw [hk] at hm2 ho
  obtain rfl := Option.some.inj hm2
  have h1 : okN 6 f = true := ho
  simp only [okN, Bool.and_eq_true, decide_eq_true_eq] at h1
  have h2 : f.rs = [] := hr
  rw [h2]
  exact ⟨by omega, by simp⟩
 ·rw [hk] at hm2 ho
  obtain rfl := Option.some.inj hm2
  have h1 : okN 7 f = true := ho
  simp only [okN, Bool.and_eq_true, decide_eq_true_eq] at h1
  have h2 : f.rs = [] := hr
  rw [h2]
  exact ⟨by omega, by simp⟩
 ·rw [hk] at hm2 ho
  obtain rfl := Option.some.inj hm2
  have h1 : okN 8 f = true := ho
  simp only [okN, Bool.and_eq_true, decide_eq_true_eq] at h1
  have h2 : f.rs = [] := hr
  rw [h2]
  exact ⟨by omega, by simp⟩
 ·rw [hk] at hm2 ho
  obtain rfl := Option.some.inj hm2
  have h1 : f.d = [] := hd
  have h2 : f.rs = [] := hr
  rw [h1, h2]
  exact ⟨by simp, by simp⟩
 ·rw [hk] at hm2 ho
  obtain rfl := Option.some.inj hm2
  have h1 : f.d = [] := hd
  have h2 : f.rs = [] := hr
  rw [h1, h2]
  exact ⟨by simp, by simp⟩
 ·rw [hk] at hm2 ho
  obtain rfl := Option.some.inj hm2
  have h1 : f.d = [] := hd
  have h2 : f.rs = [] := hr
  rw [h1, h2]
  exact ⟨by simp, by simp⟩
 ·rw [hk] at hm2 ho
  obtain rfl := Option.some.inj hm2
  have h1 : f.d = [] := hd
  have h2 : f.rs = [] := hr
  rw [h1, h2]
  exact ⟨by simp, by simp⟩
 ·rw [hk] at hm2 ho
  obtain rfl := Option.some.inj hm2
  have h1 : f.d = [] := hd
  have h2 : f.rs = [] := hr
  rw [h1, h2]
  exact ⟨by simp, by simp⟩
 ·rw [hk] at hm2 ho
  obtain rfl := Option.some.inj hm2
  have h1 : f.d = [] := hd
  have h2 : f.rs = [] := hr
  rw [h1, h2]
  exact ⟨by simp, by simp⟩
 ·rw [hk] at hm2 ho
  obtain rfl := Option.some.inj hm2
  have h1 : okN 24 f = true := ho
  simp only [okN, Bool.and_eq_true, decide_eq_true_eq] at h1
  have h2 : f.rs = [] := hr
  rw [h2]
  exact ⟨by omega, by simp⟩
 ·rw [hk] at hm2 ho
  obtain rfl := Option.some.inj hm2
  have h1 : f.d = [] := hd
  have h2 : f.rs = [] := hr
  rw [h1, h2]
  exact ⟨by simp, by simp⟩
 ·rw [hk] at hm2 ho
  obtain rfl := Option.some.inj hm2
  have h1 : okN 26 f = true := ho
  simp only [okN, decide_eq_true_eq] at h1
  have h2 : f.rs = [] := hr
  rw [h2]
  exact ⟨by omega, by simp⟩
 ·rw [hk] at hm2 ho
  obtain rfl := Option.some.inj hm2
  have h1 : okN 27 f = true := ho
  simp only [okN, decide_eq_true_eq] at h1
  have h2 : f.rs = [] := hr
  rw [h2]
  exact ⟨by omega, by simp⟩
 ·rw [hk] at hm2 ho
  obtain rfl := Option.some.inj hm2
  have h1 : okN 28 f = true := ho
  simp only [okN, Bool.and_eq_true, decide_eq_true_eq] at h1
  have h2 : f.rs = [] := hr
  rw [h2]
  exact ⟨by omega, by simp⟩
 ·rw [hk] at hm2 ho
  obtain rfl := Option.some.inj hm2
  have h1 : f.d = [] := hd
  have h2 : f.rs = [] := hr
  rw [h1, h2]
  exact ⟨by simp, by simp⟩
theorem body_len {f : Fr} (h : rightF f = true) (ht : f.t.length = 16) : (bodyN f.k.toNat f).length ≤ 2000 := by
 obtain ⟨hd, hr⟩ := right_len h
 obtain ⟨m, hm, _, _, ho⟩ := right_parts h
 have l1 := putL_len f.id
 have l2 := putL_len f.a
 have l3 := putL_len f.c
 have l4 := putL_len f.d.length
 have hack : (ackL f.b f.rs).length ≤ 2000 := by
  cases hrs : f.rs with
  | nil => simp [ackL]
  | cons x l =>
   rw [← ackUp_all]
   exact ackUp_len _ _ _ _ (by rw [hrs] at hr; simp at hr; omega)
 rcases kind_cases hm with hk | hk | hk | hk | hk | hk | hk | hk | hk | hk | hk | hk | hk | hk | hk | hk | hk | hk | hk | hk
 ·rw [hk] at ho ⊢
  have h1 : okN 0 f = true := ho
  simp only [okN, Bool.and_eq_true, decide_eq_true_eq] at h1
  show (List.replicate (f.a - 1) (0 : UInt8)).length ≤ 2000
  simp; omega
 ·rw [hk] at ho ⊢
  show ([] : List UInt8).length ≤ 2000
  simp
 ·rw [hk] at ho ⊢
  exact hack
 ·rw [hk] at ho ⊢
  show (putL f.id ++ putL f.c ++ putL f.a).length ≤ 2000
  simp only [List.length_append]
  omega
 ·rw [hk] at ho ⊢
  show (putL f.id ++ putL f.c).length ≤ 2000
  simp only [List.length_append]
  omega
 ·rw [hk] at ho ⊢
  show (putL f.a ++ dataL f.d).length ≤ 2000
  simp only [dataL, List.length_append]
  omega
 ·rw [hk] at ho ⊢
  show (dataL f.d).length ≤ 2000
  simp only [dataL, List.length_append]
  omega
 ·rw [hk] at ho ⊢
  show (putL f.id ++ (if f.a = 0 then [] else putL f.a) ++ dataL f.d).length ≤ 2000
  split <;> simp [dataL] <;> omega
 ·rw [hk] at ho ⊢
  show (putL f.a).length ≤ 2000
  omega
 ·rw [hk] at ho ⊢
  show (putL f.id ++ putL f.a).length ≤ 2000
  simp only [List.length_append]
  omega
 ·rw [hk] at ho ⊢
  show (putL f.a).length ≤ 2000
  omega
 ·rw [hk] at ho ⊢
  show (putL f.a).length ≤ 2000
  omega
 ·rw [hk] at ho ⊢
  show (putL f.id ++ putL f.a).length ≤ 2000
  simp only [List.length_append]
  omega
 ·rw [hk] at ho ⊢
  show (putL f.a).length ≤ 2000
  omega
 ·rw [hk] at ho ⊢
  show (putL f.id ++ putL f.a ++ [UInt8.ofNat f.d.length] ++ f.d ++ f.t).length ≤ 2000
  simp only [List.length_append, List.length_cons, List.length_nil]
  omega
 ·rw [hk] at ho ⊢
  show (putL f.id).length ≤ 2000
  omega
 ·rw [hk] at ho ⊢
  show (f.d).length ≤ 2000
  omega
 ·rw [hk] at ho ⊢
  show (f.d).length ≤ 2000
  omega
 ·rw [hk] at ho ⊢
  show (putL f.c ++ (bif f.fl then [] else putL f.a) ++ dataL f.d).length ≤ 2000
  cases f.fl <;> simp [dataL] <;> omega
 ·rw [hk] at ho ⊢
  show ([] : List UInt8).length ≤ 2000
  simp
theorem fput_any {w : World} {f : Fr} {vd vr : Value} (hT : Tabs w) (hv : FrV w f vd vr) (hrl : (f.rs.length : Int) ≤ 100000) (hok : okKey f.k) (hro : RngOk f) :
  Calls Tryz.prog 54 #[frV f vd vr] w fun e w' => ∃ v, e = .returned v ∧ OwnB w' w.heap.size v (fputL f) ∧ Mod (fun _ => False) w w' := by
 cases hr : rightF f
 ·exact fput_no hv hrl hok hro hr
 ·obtain ⟨m, hm, htop, _, _⟩ := right_parts hr
  have hd := (right_len hr).1
  have hb := Nat.le_trans (body_len hr hv.t) (show 2000 ≤ 100000 by decide)
  have hdi : (f.d.length : Int) ≤ 100000 := by omega
  have TB : ∀ X, Mod (fun _ => False) w X → Tabs X := fun X h => h.tabs hT (fun h => h)
  rcases kind_cases hm with hk | hk | hk | hk | hk | hk | hk | hk | hk | hk | hk | hk | hk | hk | hk | hk | hk | hk | hk | hk
  ·exact (hro.not hk (by decide)).elim
  ·exact (hro.not hk (by decide)).elim
  ·exact (hro.not hk (by decide)).elim
  ·have ho := ok_at hr (k := 4) hk
   exact fput_plain hv hrl hok hro hr (n := tagN f) (by omega) (by omega) (by omega) (by omega) (tag_plain hr (by omega) (by omega)) rfl (by have := tag_plain hr (by omega) (by omega); omega) rfl hb (by rw [hk]; rfl) (fun X hX => by rw [hk]; exact put20 (TB X hX)) entp_kinds_20 rfl
  ·exact (hro.not hk (by decide)).elim
  ·exact (hro.not hk (by decide)).elim
  ·exact (hro.not hk (by decide)).elim
  ·exact fput_stream hT hv hrl hok hro hr hk (by omega)
  ·have ho := ok_at hr (k := 16) hk
   exact fput_plain hv hrl hok hro hr (n := tagN f) (by omega) (by omega) (by omega) (by omega) (tag_plain hr (by omega) (by omega)) rfl (by have := tag_plain hr (by omega) (by omega); omega) rfl hb (by rw [hk]; rfl) (fun X hX => by rw [hk]; exact put10 (TB X hX)) entp_kinds_10 rfl
  ·have ho := ok_at hr (k := 17) hk
   exact fput_plain hv hrl hok hro hr (n := tagN f) (by omega) (by omega) (by omega) (by omega) (tag_plain hr (by omega) (by omega)) rfl (by have := tag_plain hr (by omega) (by omega); omega) rfl hb (by rw [hk]; rfl) (fun X hX => by rw [hk]; exact put11 (TB X hX)) entp_kinds_11 rfl
  ·exact (hro.not hk (by decide)).elim
  ·exact (hro.not hk (by decide)).elim
  ·exact (hro.not hk (by decide)).elim
  ·exact (hro.not hk (by decide)).elim
  ·exact (hro.not hk (by decide)).elim
  ·exact (hro.not hk (by decide)).elim
  ·exact (hro.not hk (by decide)).elim
  ·exact (hro.not hk (by decide)).elim
  ·exact (hro.not hk (by decide)).elim
  ·exact (hro.not hk (by decide)).elim
end Go.Proofs.YtahgidkpjmecdaaGreatDoor
set_option maxRecDepth 100000
namespace Go.Proofs.YtahgidkpjmecdaaGreatDoor
open Go.RowKit Go.Maps
def anyElemI (v : Value) : Option (DataW Value × List MemPlace) := some (.held v, [])
theorem rebound {P : Program} {K : TypeId} {w : World} {b n : Nat} {D : DataW Value} (h : w.ownsMap P K anyElemI b n D) : w.ownsMap P K anyElemI b (Maps.size D) D := by
 obtain ⟨es, clock, hb, F, hs, rfl⟩ := h
 exact ⟨es, clock, hb, F, by simp [Maps.size, length_sorted], rfl⟩
structure Tells (q : IntKind) (D : DataW Value) (dom : List Int) (f : Int → Value) : Prop where
 nodup : dom.Nodup
 wf : ∀ z ∈ dom, (Lit.int q z).wf = true
 size : Maps.size D = dom.length
 look : ∀ z d, D.atKey (.int q z) (.held d) = .held (if z ∈ dom then f z else d)
 has : ∀ z, Maps.has D (.int q z) = decide (z ∈ dom)
def IMap (K : TypeId) (q : IntKind) (w : World) (mb : Nat) (dom : List Int) (f : Int → Value) : Prop :=
 ∃ D : DataW Value, w.ownsMap Tryz.prog K anyElemI mb dom.length D ∧ Tidy D ∧ Tells q D dom f
theorem IMap.made (K : TypeId) (q : IntKind) (w : World) (f : Int → Value) : IMap K q (w.alloc (.map #[] 0)) w.heap.size [] f :=
 ⟨.map [], World.ownsMap_made w _ _ _, tidy_empty, ⟨List.nodup_nil, by simp, rfl, fun _ _ => rfl, fun _ => rfl⟩⟩
theorem IMap.kept {K : TypeId} {q : IntKind} {S : Nat → Prop} {w w' : World} {mb : Nat} {dom : List Int} {f : Int → Value} (h : IMap K q w mb dom f) (hM : Mod S w w') (hS : ¬ S mb) : IMap K q w' mb dom f := by
 obtain ⟨D, ⟨es, clock, hb, F, hn, hD⟩, h2⟩ := h
 exact ⟨D, ⟨es, clock, (hM.block mb (Array.getElem?_eq_some_iff.1 hb).1 hS).trans hb, F, hn, hD⟩, h2⟩
theorem IMap.lt {K : TypeId} {q : IntKind} {w : World} {mb : Nat} {dom : List Int} {f : Int → Value} (h : IMap K q w mb dom f) : mb < w.heap.size := by
 obtain ⟨D, h1, _⟩ := h; exact h1.lt
theorem IMap.ne {K : TypeId} {q : IntKind} {w : World} {mb b : Nat} {dom : List Int} {f : Int → Value} {C : Array Value} {T : TypeId} (h : IMap K q w mb dom f) (hb : Blk w b C T) : mb ≠ b := by
 obtain ⟨D, ⟨es, clock, h1, _⟩, _⟩ := h
 rintro rfl
 unfold Blk at hb
 rw [h1] at hb
 simp at hb
theorem IMap.nodup {K : TypeId} {q : IntKind} {w : World} {mb : Nat} {dom : List Int} {f : Int → Value} (h : IMap K q w mb dom f) : dom.Nodup := by
 obtain ⟨D, _, _, h3⟩ := h; exact h3.nodup
theorem IMap.wf {K : TypeId} {q : IntKind} {w : World} {mb : Nat} {dom : List Int} {f : Int → Value} (h : IMap K q w mb dom f) : ∀ z ∈ dom, (Lit.int q z).wf = true := by
 obtain ⟨D, _, _, h3⟩ := h; exact h3.wf
def putD (z : Int) (dom : List Int) : List Int := if z ∈ dom then dom else dom ++ [z]
def putF (z : Int) (v : Value) (f : Int → Value) : Int → Value := fun y => if y = z then v else f y
theorem mem_putD {z y : Int} {dom : List Int} : y ∈ putD z dom ↔ y = z ∨ y ∈ dom := by
 unfold putD
 split
 ·rename_i h
  constructor
  ·exact .inr
  ·rintro (rfl | e)
   ·exact h
   ·exact e
 ·simp [or_comm]
theorem putD_len {z : Int} {dom : List Int} : (putD z dom).length = if z ∈ dom then dom.length else dom.length + 1 := by
 unfold putD
 split <;> simp
theorem nodup_strike (z : Int) : ∀ {dom : List Int}, dom.Nodup → (dom.filter (fun y => !decide (y = z))).length + (if z ∈ dom then 1 else 0) = dom.length
 | [], _ => by simp
 | y :: dom, h => by
  have ih := nodup_strike z h.tail
  by_cases e : y = z
  ·subst e
   have hn : y ∉ dom := (List.nodup_cons.1 h).1
   simp [hn] at ih ⊢
   exact fun x hx e2 => hn (e2 ▸ hx)
  ·have e' : ¬ z = y := fun h => e h.symm
   by_cases hm : z ∈ dom <;> simp [e, e', hm] at ih ⊢ <;> omega
section
variable {K : TypeId} {q : IntKind} (hK : Tryz.prog.underlying K = some (.int q))
include hK
theorem IMap.put {t e : TypeId} {w : World} {mb : Nat} {dom : List Int} {f : Int → Value} {z : Int} (v : Value) (h : IMap K q w mb dom f) (hz : (Lit.int q z).wf = true) (hn : dom.length < maxLen) (ht : Tryz.prog.underlying t = some (.map K e)) :
  ∃ w', (Instr.mapUpdate t (.map (some mb)) (.int q z) v).run Tryz.prog w = .ok () w' ∧ IMap K q w' mb (putD z dom) (putF z v f) ∧ Mod (fun k => k = mb) w w' := by
 obtain ⟨D, h1, h2, h3⟩ := h
 have law := int_keyed hK
 have hk := keyOf_int_mk hK hz
 obtain ⟨w', hr, ho, hg⟩ := h1.update law ht hn hk (val := v) (d := .held v) (ps := []) rfl
 have hsz : Maps.size (D.put (.int q z) (.held v)) = (putD z dom).length := by
  rw [size_put h2, h3.has, h3.size, putD_len]
  by_cases e : z ∈ dom <;> simp [e]
 refine ⟨w', hr, ⟨_, by rw [← hsz]; exact rebound ho, Tidy.put h2 (law.key hk) _, ⟨?_, ?_, hsz, ?_, ?_⟩⟩, (Mod.refl (fun k => k = mb) w).grown hg (fun k hk _ => (Option.some.inj hk).symm)⟩
 ·unfold putD
  split
  ·exact h3.nodup
  ·rename_i hn
   rw [List.nodup_append]
   exact ⟨h3.nodup, by simp, fun a ha b hb e => by simp at hb; subst hb; subst e; exact hn ha⟩
 ·intro y hy
  rcases mem_putD.1 hy with rfl | hy
  ·exact hz
  ·exact h3.wf y hy
 ·intro y d
  by_cases he : y = z
  ·subst he
   rw [atKey_put_same h2.isMap (law.key hk), if_pos (mem_putD.2 (.inl rfl))]
   simp [putF]
  ·have hne : Lit.int q y ≠ Lit.int q z := by simpa using he
   rw [atKey_put_other hne, h3.look]
   simp [mem_putD, putF, he]
 ·intro y
  by_cases he : y = z
  ·subst he
   rw [has_put_same h2.isMap (law.key hk)]
   simp [mem_putD]
  ·have hne : Lit.int q y ≠ Lit.int q z := by simpa using he
   rw [has_put_other hne, h3.has]
   simp [mem_putD, he]
theorem IMap.look {t e : TypeId} {w : World} {mb : Nat} {dom : List Int} {f : Int → Value} {z : Int} {zv : Value} (h : IMap K q w mb dom f) (hz : (Lit.int q z).wf = true) (ht : Tryz.prog.underlying t = some (.map K e)) (h0 : (zeroValue e).run Tryz.prog w = .ok zv w) :
  (Instr.lookup t (.map (some mb)) (.int q z) false).run Tryz.prog w = .ok (if z ∈ dom then f z else zv) w := by
 obtain ⟨D, h1, h2, h3⟩ := h
 obtain ⟨v, ps, hr, hv⟩ := h1.lookup (int_keyed hK) ht h0 (zd := .held zv) (zp := []) rfl (keyOf_int_mk hK hz)
 rw [h3.look] at hv
 simp only [anyElemI, Option.some.injEq, Prod.mk.injEq, DataW.held.injEq] at hv
 rw [hr, hv.1]
theorem IMap.lookok {t e : TypeId} {w : World} {mb : Nat} {dom : List Int} {f : Int → Value} {z : Int} {zv : Value} (h : IMap K q w mb dom f) (hz : (Lit.int q z).wf = true) (ht : Tryz.prog.underlying t = some (.map K e)) (h0 : (zeroValue e).run Tryz.prog w = .ok zv w) :
  (Instr.lookup t (.map (some mb)) (.int q z) true).run Tryz.prog w = .ok (.tuple #[if z ∈ dom then f z else zv, .bool (decide (z ∈ dom))]) w := by
 obtain ⟨D, h1, h2, h3⟩ := h
 obtain ⟨v, ps, hr, hv⟩ := h1.look_ok (int_keyed hK) ht h0 (zd := .held zv) (zp := []) rfl (keyOf_int_mk hK hz)
 rw [h3.look] at hv
 simp only [anyElemI, Option.some.injEq, Prod.mk.injEq, DataW.held.injEq] at hv
 rw [hr, hv.1, h3.has]
theorem IMap.del {t e : TypeId} {w : World} {mb : Nat} {dom : List Int} {f : Int → Value} {z : Int} (h : IMap K q w mb dom f) (hz : (Lit.int q z).wf = true) (ht : Tryz.prog.underlying t = some (.map K e)) (ty : TypeId) :
  ∃ w', (Builtin.delete_ #[t, K] ty #[.map (some mb), .int q z]).run Tryz.prog w = .ok (.tuple #[]) w' ∧ IMap K q w' mb (dom.filter (fun y => !decide (y = z))) f ∧ Mod (fun k => k = mb) w w' := by
 obtain ⟨D, h1, h2, h3⟩ := h
 have hk := keyOf_int_mk hK hz
 obtain ⟨w', hr, ho, hg⟩ := h1.drop (int_keyed hK) ht hk ty
 have hsz : Maps.size (D.del (.int q z)) = (dom.filter (fun y => !decide (y = z))).length := by
  have e := size_del (k := .int q z) h2
  rw [h3.has, h3.size] at e
  have e2 := nodup_strike z h3.nodup
  have e3 : (if decide (z ∈ dom) = true then 1 else 0) = (if z ∈ dom then 1 else 0 : Nat) := by by_cases hm : z ∈ dom <;> simp [hm]
  rw [e3] at e
  omega
 refine ⟨w', hr, ⟨_, by rw [← hsz]; exact rebound ho, Tidy.del h2 _, ⟨h3.nodup.filter _, fun y hy => h3.wf y (List.mem_filter.1 hy).1, hsz, ?_, ?_⟩⟩, (Mod.refl (fun k => k = mb) w).grown hg.grown (fun k hk _ => (Option.some.inj hk).symm)⟩
 ·intro y d
  by_cases he : y = z
  ·subst he
   rw [atKey_del_same]
   simp
  ·have hne : Lit.int q y ≠ Lit.int q z := by simpa using he
   rw [atKey_del_other hne, h3.look]
   simp [he]
 ·intro y
  by_cases he : y = z
  ·subst he
   rw [has_del_same]
   simp
  ·have hne : Lit.int q y ≠ Lit.int q z := by simpa using he
   rw [has_del_other hne, h3.has]
   simp [he]
end
theorem IMap.len {K : TypeId} {q : IntKind} {t e : TypeId} {w : World} {mb : Nat} {dom : List Int} {f : Int → Value} (h : IMap K q w mb dom f) (ht : Tryz.prog.underlying t = some (.map K e)) (ty : TypeId) : (Builtin.len_ #[t] ty #[.map (some mb)]).run Tryz.prog w = .ok (.int .i64 (dom.length : Int)) w := by
 obtain ⟨D, h1, h2, h3⟩ := h
 rw [h1.len ht ty, h3.size]
def IRange (K : TypeId) (q : IntKind) (w : World) (mb r : Nat) (dom : List Int) (f : Int → Value) (left : Int → Bool) (cnt : Nat) : Prop :=
 ∃ (D : DataW Value) (L : Lit → Bool), w.ranges Tryz.prog K anyElemI mb r dom.length D L cnt ∧ Tidy D ∧ Tells q D dom f ∧ (∀ z, L (.int q z) = left z) ∧ ∀ z, left z = true → z ∈ dom
theorem IRange.map {K : TypeId} {q : IntKind} {w : World} {mb r cnt : Nat} {dom : List Int} {f : Int → Value} {left : Int → Bool} (h : IRange K q w mb r dom f left cnt) : IMap K q w mb dom f := by
 obtain ⟨D, L, h1, h2, h3, _⟩ := h
 exact ⟨D, h1.owns, h2, h3⟩
theorem IRange.kept {K : TypeId} {q : IntKind} {S : Nat → Prop} {w w' : World} {mb r cnt : Nat} {dom : List Int} {f : Int → Value} {left : Int → Bool} (h : IRange K q w mb r dom f left cnt) (hM : Mod S w w') (h1 : ¬ S mb) (h2 : ¬ S r) : IRange K q w' mb r dom f left cnt := by
 obtain ⟨D, L, ⟨es, clock, since, seen, c0, hb, F, hn, hD, hr, rest⟩, h3⟩ := h
 exact ⟨D, L, ⟨es, clock, since, seen, c0, (hM.block mb (Array.getElem?_eq_some_iff.1 hb).1 h1).trans hb, F, hn, hD, (hM.block r (Array.getElem?_eq_some_iff.1 hr).1 h2).trans hr, rest⟩, h3⟩
theorem IRange.ne {K : TypeId} {q : IntKind} {w : World} {mb r cnt : Nat} {dom : List Int} {f : Int → Value} {left : Int → Bool} (h : IRange K q w mb r dom f left cnt) : r ≠ mb ∧ r < w.heap.size := by
 obtain ⟨D, L, h1, _⟩ := h
 exact ⟨h1.ne, h1.lt⟩
theorem IRange.left_eq {K : TypeId} {q : IntKind} {w : World} {mb r cnt : Nat} {dom : List Int} {f : Int → Value} {left : Int → Bool} (h : IRange K q w mb r dom f left cnt) : w.rangeLeft mb r = cnt := by
 obtain ⟨D, L, h1, _⟩ := h
 exact h1.left_eq
section
variable {K : TypeId} {q : IntKind} (hK : Tryz.prog.underlying K = some (.int q))
include hK
theorem IMap.range {t e : TypeId} {w : World} {mb : Nat} {dom : List Int} {f : Int → Value} (h : IMap K q w mb dom f) (ht : Tryz.prog.underlying t = some (.map K e)) :
  ∃ w', (Instr.range t (.map (some mb))).run Tryz.prog w = .ok (.pointer (some ⟨w.heap.size, 0, none⟩)) w' ∧ IRange K q w' mb w.heap.size dom f (fun z => decide (z ∈ dom)) dom.length ∧ Mod (fun _ => False) w w' := by
 obtain ⟨D, h1, h2, h3⟩ := h
 obtain ⟨w', hr, hrg, hg, hs⟩ := h1.range (int_keyed hK) ht
 refine ⟨w', hr, ⟨D, Maps.has D, by rw [← h3.size]; rw [← h3.size] at hrg; exact hrg, h2, h3, h3.has, fun z hz => by simpa using hz⟩, (Mod.refl (fun _ => False) w).grown hg (fun k hk _ => by simp at hk)⟩
theorem IRange.next {w : World} {mb r cnt : Nat} {dom : List Int} {f : Int → Value} {left : Int → Bool} (h : IRange K q w mb r dom f left cnt) (ty : TypeId) :
  (cnt = 0 ∧ (∀ z, left z = false) ∧ (Instr.next (.pointer (some ⟨r, 0, none⟩)) false ty).run Tryz.prog w = .ok (.tuple #[.bool false]) w) ∨
  ∃ z w' cnt', left z = true ∧ (Instr.next (.pointer (some ⟨r, 0, none⟩)) false ty).run Tryz.prog w = .ok (.tuple #[.bool true, .int q z, f z]) w' ∧ IRange K q w' mb r dom f (fun y => left y && !decide (y = z)) cnt' ∧ cnt' < cnt ∧ Mod (fun k => k = r) w w' ∧
   w'.heap.size = w.heap.size ∧ (Instr.entry (.pointer (some ⟨r, 0, none⟩))).run Tryz.prog w' = .ok (.tuple #[.int q z, f z]) w' := by
 obtain ⟨D, L, h1, h2, h3, h4, h5⟩ := h
 rcases h1.next (int_keyed hK) ty with ⟨h0, hl, hr⟩ | ⟨key, v, kl, y, w', cnt', hk, hl, hy, hat, hr, hrg, hlt, hg, hs, hen⟩
 ·exact .inl ⟨h0, fun z => by rw [← h4]; exact hl _, hr⟩
 ·obtain ⟨z, rfl, rfl, hw⟩ := Maps.keyOf_int_inv hK hk
  have hz : left z = true := by rw [← h4]; exact hl
  have hd := h5 z hz
  have e1 := hat (.held undef)
  rw [h3.look, if_pos hd] at e1
  simp only [anyElemI, Option.some.injEq] at hy
  rw [← hy] at e1
  simp only [DataW.held.injEq] at e1
  rw [← e1] at hr hen
  refine .inr ⟨z, w', cnt', hz, hr, ⟨D, _, hrg, h2, h3, fun x => ?_, fun x hx => ?_⟩, hlt, (Mod.refl (fun k => k = r) w).grown hg (fun k hk _ => (Option.some.inj hk).symm), hs, hen⟩
  ·have e : (Lit.int q x).sameKey (Lit.int q z) = decide (x = z) := by simp [Lit.sameKey]
   rw [h4, e]
  ·simp at hx
   exact h5 x hx.1
end
end Go.Proofs.YtahgidkpjmecdaaGreatDoor
set_option maxRecDepth 100000
namespace Go.Proofs.YtahgidkpjmecdaaGreatDoor
open Go.RowKit
structure OB where
 b : List UInt8
 s : List UInt8
 fin : Bool
 e : UInt8
 lim : Nat
def oCells (bv sv : Value) (o : OB) : Array Value := #[bv, sv, .bool o.fin, .int .u8 (o.e.toNat : Int), .int .u64 (o.lim : Int)]
structure OBuf (B : Nat) (w : World) (ob : Nat) (bv sv : Value) (o : OB) : Prop where
 at0 : B ≤ ob
 blk : Blk w ob (oCells bv sv o) 148
 b : OwnB w B bv o.b
 s : OwnB w B sv o.s
 len : o.s.length = o.b.length
 most : o.b.length ≤ 2000
 lim : o.lim < 18446744073709551616
 apart : ∀ k, bv.ownBlock = some k → sv.ownBlock ≠ some k
def OS (ob : Nat) (bv sv : Value) : Nat → Prop := fun k => k = ob ∨ bv.ownBlock = some k ∨ sv.ownBlock = some k
theorem OwnB.lt {w : World} {B : Nat} {v : Value} {l : List UInt8} (ho : OwnB w B v l) : ∀ g, v.ownBlock = some g → B ≤ g ∧ g < w.heap.size := fun g hg => World.ownsRow.lt ho g hg
theorem OwnB.ne {w : World} {B b : Nat} {v : Value} {l : List UInt8} {C : Array Value} {T : TypeId} (ho : OwnB w B v l) (hb : Blk w b C T) (ht : T ≠ 5) : ∀ g, v.ownBlock = some g → ¬ g = b := by
 rintro g e rfl
 rcases ho.2 with ⟨rfl, _⟩ | ⟨g', cap, cur, rfl, _, hg, _⟩
 ·simp [Value.ownBlock] at e
 ·simp [Value.ownBlock] at e
  subst e
  exact Blk.ne hb (show Blk w g' cur 5 from hg) ht rfl
theorem OwnB.keptM {S : Nat → Prop} {w w' : World} {B : Nat} {v : Value} {l : List UInt8} (ho : OwnB w B v l) (hM : Mod S w w') (hS : ∀ g, v.ownBlock = some g → ¬ S g) : OwnB w' B v l := hM.own ho hS
theorem OBuf.kept {S : Nat → Prop} {B : Nat} {w w' : World} {ob : Nat} {bv sv : Value} {o : OB} (q : OBuf B w ob bv sv o) (hM : Mod S w w') (hS : ∀ k, OS ob bv sv k → ¬ S k) : OBuf B w' ob bv sv o :=
 ⟨q.at0, hM.blk q.blk (hS ob (.inl rfl)), q.b.keptM hM (fun g hg => hS g (.inr (.inl hg))), q.s.keptM hM (fun g hg => hS g (.inr (.inr hg))), q.len, q.most, q.lim, q.apart⟩
theorem OBuf.still {B : Nat} {w w' : World} {ob : Nat} {bv sv : Value} {o : OB} (q : OBuf B w ob bv sv o) (hM : Mod (fun _ => False) w w') : OBuf B w' ob bv sv o := q.kept hM (fun _ _ h => h)
theorem OBuf.lt {B : Nat} {w : World} {ob : Nat} {bv sv : Value} {o : OB} (q : OBuf B w ob bv sv o) : ∀ k, OS ob bv sv k → B ≤ k ∧ k < w.heap.size := by
 rintro k (rfl | e | e)
 ·exact ⟨q.at0, q.blk.lt⟩
 ·exact q.b.lt k e
 ·exact q.s.lt k e
def OC (B : Nat) (w w' : World) (ob : Nat) (bv sv : Value) (o' : OB) : Prop :=
 ∃ bv' sv', OBuf B w' ob bv' sv' o' ∧ (∀ k, OS ob bv' sv' k → OS ob bv sv k ∨ (w.heap.size ≤ k ∧ k < w'.heap.size)) ∧ Mod (OS ob bv sv) w w'
def newO (lim : Nat) : OB := ⟨[], [], false, 0, lim⟩
theorem OwnB.nilI (w : World) (B : Nat) : OwnB w B (.slice none 0 0) [] := World.ownsRow_nil _ _ _ _
theorem onew_any (w : World) (lim : Nat) (hl : lim < 18446744073709551616) :
  Calls Tryz.prog 73 #[.int .u64 (lim : Int)] w fun e w' => e = .returned (.pointer (some ⟨w.heap.size, 0, none⟩)) ∧ OBuf w.heap.size w' w.heap.size (.slice none 0 0) (.slice none 0 0) (newO lim) ∧ Mod (fun _ => False) w w' := by
 have HB := Lib.hid (Blk.new w (oCells (.slice none 0 0) (.slice none 0 0) (newO lim)) 148)
 have HM : Hid (Mod (fun _ => False) w (w.alloc (.cells (oCells (.slice none 0 0) (.slice none 0 0) (newO lim)) 148))) := Lib.hid ((Mod.refl _ _).alloc _)
 have HL := Lib.hid hl
 clear hl
 go_enter Tryz.func73, Tryz.ntmps73
 go_wp2_with fail
 go_ret
 exact ⟨rfl, ⟨Nat.le_refl _, HB.out, OwnB.nilI _ _, OwnB.nilI _ _, rfl, by simp [newO], HL.out, by simp [Value.ownBlock]⟩, HM.out⟩
theorem ofinish_any {B : Nat} {w : World} {ob : Nat} {bv sv : Value} {o : OB} (q : OBuf B w ob bv sv o) :
  Calls Tryz.prog 51 #[.pointer (some ⟨ob, 0, none⟩)] w fun e w' => e = .returned (.bool (!o.fin)) ∧ OC B w w' ob bv sv { o with fin := true } := by
 have c2 : w.cell? ⟨ob, 2, none⟩ = some (.bool o.fin) := q.blk.cellAt 2 rfl
 have f2 : w.frozen? ⟨ob, 2, none⟩ = false := q.blk.free 2
 obtain ⟨b, s, fin, e, lim⟩ := o
 dsimp only at c2 ⊢
 have HQ := Lib.hid q
 clear q
 cases fin with
 | true =>
  go_enter Tryz.func51, Tryz.ntmps51
  go_wp2_with fail
  go_ret
  exact ⟨rfl, bv, sv, HQ.out, fun k hk => .inl hk, Mod.refl _ _⟩
 | false =>
  go_enter Tryz.func51, Tryz.ntmps51
  go_wp2_with fail
  go_ret
  have hM : Mod (fun k => k = ob) w (w.setCell ⟨ob, 2, none⟩ (.bool true)) := (Mod.refl (fun k => k = ob) _).setCell (p := ⟨ob, 2, none⟩) (fun _ => rfl) _
  have q := HQ.out
  have hb1 := q.b.ne q.blk (by decide)
  have hb2 := q.s.ne q.blk (by decide)
  exact ⟨rfl, bv, sv, ⟨q.at0, q.blk.set 2 (.bool true), q.b.keptM hM hb1, q.s.keptM hM hb2, q.len, q.most, q.lim, q.apart⟩, fun k hk => .inl hk, hM.mono (fun k _ e => .inl e)⟩
theorem owritten_any {B : Nat} {w : World} {ob : Nat} {bv sv : Value} {o : OB} (q : OBuf B w ob bv sv o) :
  Calls Tryz.prog 102 #[.pointer (some ⟨ob, 0, none⟩)] w fun e w' => w = w' ∧ e = .returned (.int .i64 (o.b.length : Int)) := by
 obtain ⟨a, cap, rfl, -⟩ := Sl.val q.b.byts
 have c0 : w.cell? ⟨ob, 0, none⟩ = some (.slice a o.b.length cap) := q.blk.cellAt 0 rfl
 clear q
 go_enter Tryz.func102, Tryz.ntmps102
 go_wp2_with fail
 go_ret
 exact ⟨rfl, rfl⟩
def raiseO (l : Nat) (o : OB) : OB := if o.lim < l then { o with lim := l } else o
end Go.Proofs.YtahgidkpjmecdaaGreatDoor
set_option maxRecDepth 100000
namespace Go.Proofs.YtahgidkpjmecdaaGreatDoor
open Go.RowKit Go.Sort
theorem isnan_any (x : Int) (w : World) : Calls Tryz.prog 212 #[.int .u64 x] w fun e w' => e = .returned (.bool false) ∧ w' = w := by
 go_enter Tryz.func212, Tryz.ntmps212
 go_wp2
 go_ret
 exact ⟨by simp, rfl⟩
theorem less_any (x y : Int) (w : World) : Calls Tryz.prog 135 #[.int .u64 x, .int .u64 y] w fun e w' => e = .returned (.bool (Sort.ltInt x y)) ∧ w' = w := by
 go_enter Tryz.func135, Tryz.ntmps135
 go_wp2_with (go_at_call 212; refine (isnan_any _ _).mono ?_; rintro e w' ⟨rfl, rfl⟩)
 go_ret
 exact ⟨rfl, rfl⟩
def intOfU : Value → Int | .int _ q => q | _ => 0
section
variable {α : Type} [Inhabited α] (lt : α → α → Bool)
theorem insInner_go (a j : Nat) (d : Array α) (hj : a < j) (hl : lt d[j]! d[j - 1]! = true) : insInner lt a j d = insInner lt a (j - 1) (swp d j (j - 1)) := by
 obtain ⟨k, rfl⟩ : ∃ k, j = k + 1 := ⟨j - 1, by omega⟩
 rw [insInner]
 simp only [Nat.add_sub_cancel] at hl ⊢
 simp [hj, hl]
theorem insInner_stop (a j : Nat) (d : Array α) (h : j ≤ a ∨ lt d[j]! d[j - 1]! = false) : insInner lt a j d = d := by
 cases j with
 | zero => rw [insInner]
 | succ k =>
  rw [insInner]
  simp only [Nat.add_sub_cancel] at h
  rcases h with h | h
  ·simp [show ¬ k + 1 > a by omega]
  ·simp [h]
theorem insOuter_go (a b i : Nat) (d : Array α) (h : i < b) : insOuter lt a b i d = insOuter lt a b (i + 1) (insInner lt a i d) := by rw [insOuter, if_pos h]
theorem insOuter_stop (a b i : Nat) (d : Array α) (h : ¬ i < b) : insOuter lt a b i d = d := by rw [insOuter, if_neg h]
end
section
variable {α : Type} [Inhabited α] (enc : α → Value)
theorem putRow_drewN (w : World) (m q blk off : Nat) (d : Array α) : (putRow enc (Sort.ahead w m) blk off d).drewN q = putRow enc (Sort.ahead w (m + q)) blk off d := by
 show Sort.ahead (putRow enc (Sort.ahead w m) blk off d) q = _
 rw [putRow_ahead enc w m, ahead_ahead, ← putRow_ahead]
theorem swap_worldA (w : World) (m q blk off : Nat) (d : Array α) (j k : Nat) (hj : j < d.size) (hk : k < d.size) :
  (((putRow enc (Sort.ahead w m) blk off d).drewN q).setCell ⟨blk, off + j, none⟩ (enc d[k]!)).setCell ⟨blk, off + k, none⟩ (enc d[j]!) = putRow enc (Sort.ahead w (m + q)) blk off (swp d j k) := by
 rw [putRow_drewN]
 exact putRow_swp enc _ blk off d j k hj hk
end
theorem insort_any (blk off cap a b : Nat) (d : Array Int) (w : World) (hH : Holds (Value.int .u64) w blk off d) (hab : a ≤ b) (hb : b ≤ d.size) (hsz : d.size < 4611686018427387904) :
  Calls Tryz.prog 129 #[.slice (some ⟨blk, off, none⟩) d.size cap, .int .i64 a, .int .i64 b] w fun e w' =>
   e = .returned (.tuple #[]) ∧ ∃ n, w' = putRow (Value.int .u64) (Sort.ahead w n) blk off (Sort.insertionSort ltInt d a b) := by
 go_enter Tryz.func129, Tryz.ntmps129
 go_wp2
 go_loopw [6] (fun vi wr => ∃ (i n : Nat) (dk : Array Int), vi = .int .i64 i ∧ a < i ∧ i ≤ b + 1 ∧ dk.size = d.size ∧ wr = putRow (Value.int .u64) (Sort.ahead w n) blk off dk ∧
   insOuter ltInt a b i dk = insOuter ltInt a b (a + 1) d) (fun vi _ => b + 1 - (intOfU vi).toNat)
 case atStart => exact ⟨a + 1, 0, d, by go_num, by omega, by omega, rfl, (putRow_self _ _ _ _ _ hH).symm, rfl⟩
 case round =>
  obtain ⟨i, n, dk, rfl, hai, hib, hsk, hwr, hO⟩ := hrel
  have HO : Hid (insOuter ltInt a b i dk = insOuter ltInt a b (a + 1) d) := hO
  clear hO
  go_wp2
  ·
   go_loopw [7] (fun vj wr2 => ∃ (j m : Nat) (dj : Array Int), vj = .int .i64 j ∧ a ≤ j ∧ j ≤ i ∧ dj.size = d.size ∧ wr2 = putRow (Value.int .u64) (Sort.ahead w m) blk off dj ∧
     insInner ltInt a j dj = insInner ltInt a i dk) (fun vj _ => (intOfU vj).toNat)
   case atStart => exact ⟨i, n, dk, rfl, by omega, Nat.le_refl _, hsk, rfl, rfl⟩
   case round =>
    obtain ⟨j, m, dj, rfl, haj, hji, hsj, hw2, hI⟩ := hrel
    have hlt : i < b := by assumption
    obtain ⟨G, hG⟩ : ∃ G : Nat → Int, ∀ t, G t = dj[t]! := ⟨fun t => dj[t]!, fun _ => rfl⟩
    have hcw : ∀ t, t < d.size → wr.cell? ⟨blk, off + t, none⟩ = some (.int .u64 (G t)) := fun t ht => by
     rw [hw2, hG]; exact cell?_putRow _ _ _ _ d dj (holds_ahead _ _ _ _ _ _ hH) hsj t (by omega)
    have hfw : ∀ t, t < d.size → wr.frozen? ⟨blk, off + t, none⟩ = false := fun t ht => by
     rw [hw2, frozen?_putRow]; exact ((holds_ahead _ _ m _ _ _ hH) t ht).2
    have HW : Hid (wr = putRow (Value.int .u64) (Sort.ahead w m) blk off dj) := hw2
    have HG : Hid (∀ t, G t = dj[t]!) := hG
    have HI : Hid (insInner ltInt a j dj = insInner ltInt a i dk) := hI
    clear hw2 hG hI hH
    have out : (j ≤ a ∨ ltInt dj[j]! dj[j - 1]! = false) → ∀ q, ∃ i' n' dk', Value.int .i64 ((i : Int) + 1) = .int .i64 (i' : Nat) ∧ a < i' ∧ i' ≤ b + 1 ∧ dk'.size = d.size ∧
      wr.drewN q = putRow (Value.int .u64) (Sort.ahead w n') blk off dk' ∧ insOuter ltInt a b i' dk' = insOuter ltInt a b (a + 1) d := fun hs q =>
     ⟨i + 1, m + q, dj, by go_num, by omega, by omega, hsj, by rw [HW.out]; exact putRow_drewN _ _ _ _ _ _ _,
      by rw [← HO.out, insOuter_go _ _ _ _ _ hlt, ← HI.out, insInner_stop _ _ _ _ hs]⟩
    have OUT : Hid _ := out
    clear out
    go_wp2
    by_cases hja : a < j
    ·go_quiet (first | (go_at_call 135; refine Calls.quiet_of_same (less_any _ _ _)))
     go_wp2
     ·
      have hl : ltInt (G j) (G (j - 1)) = true := by assumption
      go_region
      all_goals go_wp2
      go_roundw
      case rel =>
       refine ⟨j - 1, m + (nq + 1), swp dj j (j - 1), by congr 1; omega, by omega, by omega, by rw [size_swp]; exact hsj, ?_, ?_⟩
       ·rw [HW.out, HG.out, HG.out]
        exact swap_worldA _ w m (nq + 1) blk off dj j (j - 1) (by omega) (by omega)
       ·rw [← HI.out, insInner_go ltInt a j dj hja (by rw [← HG.out, ← HG.out]; exact hl)]
      case measure => simp [intOfU]; omega
     ·
      have hl : ltInt (G j) (G (j - 1)) = false := by assumption
      go_roundw
      case rel => exact OUT.out (Or.inr (by rw [← HG.out, ← HG.out]; exact hl)) nq
      case measure => simp [intOfU]; omega
    ·go_quiet (first | (go_at_call 135; refine Calls.quiet_of_same (less_any _ _ _)))
     go_wp2
     go_roundw
     case rel => exact OUT.out (Or.inl (by omega)) nq
     case measure => simp [intOfU]; omega
  ·
   have hge : ¬ i < b := by assumption
   go_end0
   exact ⟨rfl, n, by unfold Sort.insertionSort; rw [← HO.out, insOuter_stop _ _ _ _ _ hge]⟩
theorem insort_nil (w : World) : Calls Tryz.prog 129 #[.slice none 0 0, .int .i64 0, .int .i64 0] w fun e w' => e = .returned (.tuple #[]) ∧ w = w' := by
 go_enter Tryz.func129, Tryz.ntmps129
 go_wp2
 go_loopw [6] (fun vi wr => vi = .int .i64 1 ∧ w = wr) (fun vi _ => 0)
 case atStart => exact ⟨rfl, rfl⟩
 case round =>
  obtain ⟨rfl, rfl⟩ := hrel
  go_wp2
  go_end0
  exact ⟨rfl, rfl⟩
def lenMax : Nat := 12
theorem len12_any (n : Nat) (h : n ≤ 12) (w : World) : Calls Tryz.prog 94 #[.int .u64 (n : Int)] w fun e w' => w = w' ∧ ∃ k : Int, e = .returned (.int .i64 k) := by
 have L64 : ∀ (m : Int), m = 0 ∨ m = 1 ∨ m = 2 ∨ m = 3 ∨ m = 4 ∨ m = 5 ∨ m = 6 ∨ m = 7 ∨ m = 8 ∨ m = 9 ∨ m = 10 ∨ m = 11 ∨ m = 12 → Calls Tryz.prog 139 #[.int .u64 m] w fun e w' => w = w' ∧ ∃ k : Int, e = .returned (.int .i64 k) := by
  rintro m (rfl | rfl | rfl | rfl | rfl | rfl | rfl | rfl | rfl | rfl | rfl | rfl | rfl) <;> (
   go_enter Tryz.func139, Tryz.ntmps139
   go_wp2_with fail
   go_ret
   exact ⟨rfl, _, rfl⟩)
 have HL := Lib.hid (L64 (n : Int) (by omega))
 clear L64 h
 go_enter Tryz.func94, Tryz.ntmps94
 go_wp2_with (first
  | (go_at_call 139; (with_reducible refine HL.out.mono ?_); rintro e w1 ⟨rfl, k, rfl⟩)
  | fail)
 go_ret
 exact ⟨rfl, _, rfl⟩
theorem pdq12_any (blk cap : Nat) (lim : Int) (d : Array Int) (w : World) (hH : Holds (Value.int .u64) w blk 0 d) (hsz : d.size ≤ 12) :
  Calls Tryz.prog 93 #[.slice (some ⟨blk, 0, none⟩) d.size cap, .int .i64 0, .int .i64 d.size, .int .i64 lim] w fun e w' =>
   e = .returned (.tuple #[]) ∧ ∃ n, w' = putRow (Value.int .u64) (Sort.ahead w n) blk 0 (Sort.insertionSort ltInt d 0 d.size) := by
 have HI : Hid (Calls Tryz.prog 129 #[.slice (some ⟨blk, 0, none⟩) d.size cap, .int .i64 0, .int .i64 d.size] w fun e w' => e = .returned (.tuple #[]) ∧ ∃ n, w' = putRow (Value.int .u64) (Sort.ahead w n) blk 0 (Sort.insertionSort ltInt d 0 d.size)) := Lib.hid (insort_any blk 0 cap 0 d.size d w hH (Nat.zero_le _) (Nat.le_refl _) (by omega))
 have t1 : decide ((d.size : Int) ≤ 12) = true := decide_eq_true (by omega)
 clear hH
 go_enter Tryz.func93, Tryz.ntmps93
 go_wp2
 go_loopw [1, 2] (fun v v2 wr => v = .int .i64 0 ∧ v2 = .int .i64 d.size ∧ w = wr) (fun _ _ _ => 0)
 case atStart => exact ⟨rfl, rfl, rfl⟩
 case round =>
  obtain ⟨rfl, rfl, rfl⟩ := hrel
  go_wp2_with (first
   | (go_at_call 129; (with_reducible refine HI.out.mono ?_); rintro e w1 ⟨rfl, n, rfl⟩)
   | fail)
  refine bodyPost_ret (results_none rfl _ _ _) rfl ?_
  exact ⟨rfl, n, rfl⟩
theorem pdq_nil (lim : Int) (w : World) :
  Calls Tryz.prog 93 #[.slice none 0 0, .int .i64 0, .int .i64 0, .int .i64 lim] w fun e w' => e = .returned (.tuple #[]) ∧ w = w' := by
 go_enter Tryz.func93, Tryz.ntmps93
 go_wp2
 go_loopw [1, 2] (fun v v2 wr => v = .int .i64 0 ∧ v2 = .int .i64 0 ∧ w = wr) (fun _ _ _ => 0)
 case atStart => exact ⟨rfl, rfl, rfl⟩
 case round =>
  obtain ⟨rfl, rfl, rfl⟩ := hrel
  go_wp2_with (first
   | (go_at_call 129; (with_reducible refine (insort_nil _).mono ?_); rintro e w1 ⟨rfl, rfl⟩)
   | fail)
  refine bodyPost_ret (results_none rfl _ _ _) rfl ?_
  exact ⟨rfl, rfl⟩
def sortI (l : List Int) : List Int := l.mergeSort (fun x y => decide (x ≤ y))
theorem insort_eq (l : List Int) : Sort.insertionSort ltInt l.toArray 0 l.length = (sortI l).toArray := by
 have h := insertionSort_holds (lt := ltInt) swo_ltInt l.toArray 0 l.length (Nat.zero_le _) (by simp)
 have hu := sorted_unique_holds (lt := ltInt) swo_ltInt (fun x y h1 h2 => by simp [ltInt] at h1 h2; omega) l.toArray (Sort.insertionSort ltInt l.toArray 0 l.length) (by simpa using h.1) (by simpa using h.2)
 apply Array.toList_inj.1
 rw [hu]
 unfold sortI
 simp only
 congr 1
 funext x y
 simp only [ltInt]
 by_cases h : y < x
 ·rw [decide_eq_true h, decide_eq_false (by omega)]; rfl
 ·rw [decide_eq_false h, decide_eq_true (by omega)]; rfl
theorem usort_any (blk cap : Nat) (l : List Int) (w : World) (hH : Holds (Value.int .u64) w blk 0 l.toArray) (hsz : l.length ≤ lenMax) :
  Calls Tryz.prog 52 #[.slice (some ⟨blk, 0, none⟩) l.length cap] w fun e w' =>
   e = .returned (.tuple #[]) ∧ ∃ n os, w' = grow (putRow (Value.int .u64) (Sort.ahead w n) blk 0 (sortI l).toArray) os := by
 unfold lenMax at hsz
 have HP := Lib.hid (fun lim => pdq12_any blk cap lim l.toArray w hH (by simpa using hsz))
 have HL := Lib.hid (len12_any l.length hsz)
 simp only [List.size_toArray] at HP
 rw [insort_eq] at HP
 have u1 : IntKind.u64.wrap (l.length : Int) = (l.length : Int) := IntWalk.u64_in _ (by omega)
 clear hH
 go_enter Tryz.func52, Tryz.ntmps52
 go_wp2_with (first
  | (go_at_call 94; (with_reducible refine (HL.out _).mono ?_); rintro e w1 ⟨rfl, k, rfl⟩)
  | (go_at_call 93; (with_reducible refine (HP.out _).mono ?_); rintro e w1 ⟨rfl, n, rfl⟩)
  | fail)
 go_end0
 exact ⟨rfl, n, #[], by rw [grow_empty]⟩
theorem usort_nil (w : World) :
  Calls Tryz.prog 52 #[.slice none 0 0] w fun e w' => e = .returned (.tuple #[]) ∧ w = w' := by
 have HL := Lib.hid (len12_any 0 (by decide))
 go_enter Tryz.func52, Tryz.ntmps52
 go_wp2_with (first
  | (go_at_call 94; refine (HL.out _).mono ?_; rintro e w1 ⟨rfl, k, rfl⟩)
  | (go_at_call 93; (with_reducible refine (pdq_nil _ _).mono ?_); rintro e w1 ⟨rfl, rfl⟩)
  | fail)
 go_end0
 exact ⟨rfl, rfl⟩
end Go.Proofs.YtahgidkpjmecdaaGreatDoor
set_option maxRecDepth 100000
namespace Go.Proofs.YtahgidkpjmecdaaGreatDoor
open Go.RowKit Go.Maps
structure IB where
 win : Nat
 read : Nat
 top : Nat
 size : Nat
 known : Bool
 dom : List Int
 f : Int → UInt8
def iCells (mb : Nat) (o : IB) : Array Value := #[.int .i64 (o.win : Int), .int .u64 (o.read : Int), .int .u64 (o.top : Int), .int .u64 (o.size : Int), .bool o.known, .map (some mb)]
def iF (o : IB) : Int → Value := fun z => .int .u8 ((o.f z).toNat : Int)
structure IBuf (B : Nat) (w : World) (ib mb : Nat) (o : IB) : Prop where
 at0 : B ≤ ib
 at1 : B ≤ mb
 blk : Blk w ib (iCells mb o) 188
 map : IMap 34 .u64 w mb o.dom (iF o)
 doms : ∀ z ∈ o.dom, (o.read : Int) ≤ z ∧ z < (o.top : Int)
 ok : o.win ≤ 100000 ∧ o.read ≤ o.top ∧ o.top ≤ o.read + o.win ∧ o.top ≤ 4611686018427387904 ∧ o.size ≤ 4611686018427387904
def IS (ib mb : Nat) : Nat → Prop := fun k => k = ib ∨ k = mb
theorem IBuf.kept {S : Nat → Prop} {B : Nat} {w w' : World} {ib mb : Nat} {o : IB} (q : IBuf B w ib mb o) (hM : Mod S w w') (hS : ∀ k, IS ib mb k → ¬ S k) : IBuf B w' ib mb o :=
 ⟨q.at0, q.at1, hM.blk q.blk (hS ib (.inl rfl)), q.map.kept hM (hS mb (.inr rfl)), q.doms, q.ok⟩
theorem IBuf.still {B : Nat} {w w' : World} {ib mb : Nat} {o : IB} (q : IBuf B w ib mb o) (hM : Mod (fun _ => False) w w') : IBuf B w' ib mb o := q.kept hM (fun _ _ h => h)
theorem IBuf.lt {B : Nat} {w : World} {ib mb : Nat} {o : IB} (q : IBuf B w ib mb o) : ∀ k, IS ib mb k → B ≤ k ∧ k < w.heap.size := by
 rintro k (rfl | rfl)
 ·exact ⟨q.at0, q.blk.lt⟩
 ·exact ⟨q.at1, q.map.lt⟩
theorem nodup_range : ∀ (n : Nat) (a : Int) (dom : List Int), dom.Nodup → (∀ z ∈ dom, a ≤ z ∧ z < a + (n : Int)) → dom.length ≤ n
 | 0, a, dom, _, h => by
  cases dom with
  | nil => simp
  | cons z l => have := h z (by simp); omega
 | n + 1, a, dom, hd, h => by
  have ih := nodup_range n a (dom.filter (fun y => !decide (y = a + (n : Int)))) (hd.filter _) (fun z hz => by
   simp only [List.mem_filter, Bool.not_eq_true', decide_eq_false_iff_not] at hz
   have := h z hz.1
   omega)
  have e := nodup_strike (a + (n : Int)) hd
  split at e <;> omega
theorem IBuf.size {B : Nat} {w : World} {ib mb : Nat} {o : IB} (q : IBuf B w ib mb o) : o.dom.length ≤ 100000 := by
 have := nodup_range (o.top - o.read) (o.read : Int) o.dom q.map.nodup (fun z hz => by have := q.doms z hz; have := q.ok; omega)
 have := q.ok
 omega
theorem itop_nil (w : World) : Calls Tryz.prog 107 #[.pointer none] w fun e w' => w = w' ∧ e = .returned (.int .u64 0) := by
 go_enter Tryz.func107, Tryz.ntmps107
 go_wp2_with fail
 go_ret
 exact ⟨rfl, rfl⟩
theorem itop_any {B : Nat} {w : World} {ib mb : Nat} {o : IB} (q : IBuf B w ib mb o) : Calls Tryz.prog 107 #[.pointer (some ⟨ib, 0, none⟩)] w fun e w' => w = w' ∧ e = .returned (.int .u64 (o.top : Int)) := by
 have c2 : w.cell? ⟨ib, 2, none⟩ = some (.int .u64 (o.top : Int)) := q.blk.cellAt 2 rfl
 clear q
 go_enter Tryz.func107, Tryz.ntmps107
 go_wp2_with fail
 go_ret
 exact ⟨rfl, rfl⟩
def newI (n : Nat) : IB := ⟨n, 0, 0, 0, false, [], fun _ => 0⟩
def INew (w w' : World) (n : Nat) (e : Ending) : Prop := ∃ ib mb, e = .returned (.pointer (some ⟨ib, 0, none⟩)) ∧ IBuf w.heap.size w' ib mb (newI n) ∧ Mod (fun _ => False) w w'
theorem inew_any (w : World) (n : Nat) (hn : (n : Int) ≤ 100000) :
  Calls Tryz.prog 74 #[.int .i64 (n : Int)] w fun e w' => INew w w' n e := by
 have hmm := @run_makeMap Tryz.prog
 have HM : Hid (IMap 34 .u64 (w.alloc (.map #[] 0)) w.heap.size [] (iF (newI n))) := Lib.hid (IMap.made _ _ _ _)
 have hb := Blk.new (w.alloc (.map #[] 0)) (iCells w.heap.size (newI n)) 188
 rw [World.size_alloc] at hb
 have HB := Lib.hid hb
 clear hb
 have HMM : Hid (Mod (fun _ => False) (w.alloc (.map #[] 0)) ((w.alloc (.map #[] 0)).alloc (.cells (iCells w.heap.size (newI n)) 188)) ∧ Mod (fun _ => False) w (w.alloc (.map #[] 0))) := Lib.hid ⟨(Mod.refl _ _).alloc _, (Mod.refl _ _).alloc _⟩
 have n0 : (0 : Int) ≤ (n : Int) := by omega
 have HN := Lib.hid hn
 go_enter Tryz.func74, Tryz.ntmps74
 go_wp2_with fail
 go_ret
 exact ⟨w.heap.size + 1, w.heap.size, rfl, ⟨by omega, Nat.le_refl _, HB.out, HM.out.kept HMM.out.1 (fun e => e), by simp [newI], by have := HN.out; simp [newI]; omega⟩, HMM.out.2.trans HMM.out.1⟩
theorem ilimit_any {B : Nat} {w : World} {ib mb : Nat} {o : IB} (q : IBuf B w ib mb o) : Calls Tryz.prog 101 #[.pointer (some ⟨ib, 0, none⟩)] w fun e w' => e = .returned (.int .u64 (((o.read + o.win : Nat)) : Int)) ∧ Mod (fun _ => False) w w' := by
 have c0 : w.cell? ⟨ib, 0, none⟩ = some (.int .i64 (o.win : Int)) := q.blk.cellAt 0 rfl
 have c1 : w.cell? ⟨ib, 1, none⟩ = some (.int .u64 (o.read : Int)) := q.blk.cellAt 1 rfl
 have h1 : IntKind.u64.wrap (o.win : Int) = (o.win : Int) := IntWalk.u64_in _ (by have := q.ok; omega)
 have h2 : IntKind.u64.wrap ((o.read : Int) + (o.win : Int)) = ((o.read + o.win : Nat) : Int) := by rw [IntWalk.u64_in _ (by have := q.ok; omega)]; omega
 clear q
 generalize o.read + o.win = R at *
 generalize o.read = r at *
 generalize o.win = n at *
 have HM : Hid (Mod (fun _ => False) w w.drew) := Lib.hid (Mod.refl _ _).drew
 go_enter Tryz.func101, Tryz.ntmps101
 go_upto_region 3 with fail
 go_region_held (fun w' => w'.cell? ⟨ib, 0, none⟩ = some (.int .i64 (n : Int)) ∧ w'.cell? ⟨ib, 1, none⟩ = some (.int .u64 (r : Int))) (go_keep) (fail)
 go_wp2_with fail
 go_ret
 exact ⟨rfl, HM.out⟩
def doneI (o : IB) : Bool := o.known && decide (o.read = o.size)
theorem idone_any {B : Nat} {w : World} {ib mb : Nat} {o : IB} (q : IBuf B w ib mb o) : Calls Tryz.prog 115 #[.pointer (some ⟨ib, 0, none⟩)] w fun e w' => e = .returned (.bool (doneI o)) ∧ Mod (fun _ => False) w w' := by
 have c1 : w.cell? ⟨ib, 1, none⟩ = some (.int .u64 (o.read : Int)) := q.blk.cellAt 1 rfl
 have c3 : w.cell? ⟨ib, 3, none⟩ = some (.int .u64 (o.size : Int)) := q.blk.cellAt 3 rfl
 have c4 : w.cell? ⟨ib, 4, none⟩ = some (.bool o.known) := q.blk.cellAt 4 rfl
 have HM : Hid (Mod (fun _ => False) w w.drew) := Lib.hid (Mod.refl _ _).drew
 have d1 := HM.out.cellAt c1 (fun e => e)
 have d3 := HM.out.cellAt c3 (fun e => e)
 have d4 := HM.out.cellAt c4 (fun e => e)
 obtain ⟨R, hR⟩ : ∃ R, R = doneI o := ⟨_, rfl⟩
 rw [← hR]
 have hd : R = (o.known && ((o.read : Int) == (o.size : Int))) := by
  rw [hR]
  unfold doneI
  congr 1
  rw [Bool.eq_iff_iff]
  simp
  omega
 have HD := Lib.hid hd
 clear q hR hd c1 c3 c4
 generalize o.read = r at *
 generalize o.size = z at *
 generalize o.known = k at *
 cases k with
 | false =>
  go_enter Tryz.func115, Tryz.ntmps115
  go_upto_region 1 with fail
  refine wp_region_held_drew (S := fun X => w.drew = X) (by kernel_rfl) rfl (fun hS => ?_)
  generalize w.drew = Y at *
  refine' tk 0 _ (some 3) rfl rfl (by kernel_rfl) (fun _ _ _ => id) (Or.inl ⟨by rfl, fun X hX => ?_⟩) hS ?_; rotate_left
  ·go_simp; exact rfl
  (try go_frame); refine' tk 1 _ (some 4) rfl rfl (by kernel_rfl) (fun _ _ _ => id) (Or.inl ⟨by rfl, fun X hX => ?_⟩) hS ?_; rotate_left
  ·go_simp; exact rfl
  (try go_frame); refine' tk 2 _ (some 5) rfl rfl (by kernel_rfl) (fun _ _ _ => id) (Or.inl ⟨by rfl, fun X hX => ?_⟩) hS ?_; rotate_left
  ·go_simp; exact rfl
  (try go_frame); refine' tk 3 _ (some 6) rfl rfl (by kernel_rfl) (fun _ _ _ => id) (Or.inl ⟨by rfl, fun X hX => ?_⟩) hS ?_; rotate_left
  ·go_simp; exact rfl
  (try go_frame); refine' tk 4 _ (some 7) rfl rfl (by kernel_rfl) (fun _ _ _ => id) (Or.inl ⟨by rfl, fun X hX => ?_⟩) hS ?_; rotate_left
  ·go_simp; exact rfl
  (try go_frame); refine' tk 5 _ (some 8) rfl rfl (by kernel_rfl) (fun _ _ _ => id) (Or.inl ⟨by rfl, fun X hX => ?_⟩) hS ?_; rotate_left
  ·go_simp; exact rfl
  (try go_frame); refine' tk 6 _ (some 9) rfl rfl (by kernel_rfl) (fun _ _ _ => id) (Or.inl ⟨by rfl, fun X hX => ?_⟩) hS ?_; rotate_left
  ·have hX := (show Y = X from hX); subst hX; go_simp; exact rfl
  (try go_frame); refine' tk 7 _ (some 10) rfl rfl (by kernel_rfl) (fun _ _ _ => id) (Or.inl ⟨by rfl, fun X hX => ?_⟩) hS ?_; rotate_left
  ·go_simp; exact rfl
  (try go_frame); refine' tk 8 _ (some 11) rfl rfl (by kernel_rfl) (fun _ _ _ => id) (Or.inl ⟨by rfl, fun X hX => ?_⟩) hS ?_; rotate_left
  ·go_simp; exact rfl
  (try go_frame); refine tk 9 undef (some 12) rfl rfl (by kernel_rfl) (fun _ _ _ => id) (Or.inr ⟨by rfl, rfl⟩) hS ?_
  (try go_frame); refine tk 10 undef (some 13) rfl rfl (by kernel_rfl) (fun _ _ _ => id) (Or.inr ⟨by rfl, rfl⟩) hS ?_
  (try go_frame); refine tk 11 undef (some 14) rfl rfl (by kernel_rfl) (fun _ _ _ => id) (Or.inr ⟨by rfl, rfl⟩) hS ?_
  (try go_frame); refine tk 12 undef (some 15) rfl rfl (by kernel_rfl) (fun _ _ _ => id) (Or.inr ⟨by rfl, rfl⟩) hS ?_
  (try go_frame); refine tk 13 undef (some 16) rfl rfl (by kernel_rfl) (fun _ _ _ => id) (Or.inr ⟨by rfl, rfl⟩) hS ?_
  (try go_frame); refine tk 14 undef (some 17) rfl rfl (by kernel_rfl) (fun _ _ _ => id) (Or.inr ⟨by rfl, rfl⟩) hS ?_
  (try go_frame); refine tk 15 undef (some 18) rfl rfl (by kernel_rfl) (fun _ _ _ => id) (Or.inr ⟨by rfl, rfl⟩) hS ?_
  (try go_frame); refine tk 16 undef (some 19) rfl rfl (by kernel_rfl) (fun _ _ _ => id) (Or.inr ⟨by rfl, rfl⟩) hS ?_
  (try go_frame); refine tk 17 undef (some 20) rfl rfl (by kernel_rfl) (fun _ _ _ => id) (Or.inr ⟨by rfl, rfl⟩) hS ?_
  (try go_frame); refine' tk 18 _ (some 21) rfl rfl (by kernel_rfl) (fun _ _ _ => id) (Or.inl ⟨by rfl, fun X hX => ?_⟩) hS ?_; rotate_left
  ·go_simp; exact rfl
  (try go_frame); refine' tk 19 _ (some 2) rfl rfl (by kernel_rfl) (fun _ _ _ => id) (Or.inl ⟨by rfl, fun X hX => ?_⟩) hS ?_; rotate_left
  ·go_simp; exact rfl
  (try go_frame); refine wpAnyH_done (by kernel_rfl) ?_ _
  go_wp2_with fail
  go_ret
  exact ⟨by rw [HD.out]; first | rfl | simp, HM.out⟩
 | true =>
  go_enter Tryz.func115, Tryz.ntmps115
  go_upto_region 1 with fail
  refine wp_region_held_drew (S := fun X => w.drew = X) (by kernel_rfl) rfl (fun hS => ?_)
  generalize w.drew = Y at *
  refine' tk 0 _ (some 3) rfl rfl (by kernel_rfl) (fun _ _ _ => id) (Or.inl ⟨by rfl, fun X hX => ?_⟩) hS ?_; rotate_left
  ·go_simp; exact rfl
  (try go_frame); refine' tk 1 _ (some 4) rfl rfl (by kernel_rfl) (fun _ _ _ => id) (Or.inl ⟨by rfl, fun X hX => ?_⟩) hS ?_; rotate_left
  ·go_simp; exact rfl
  (try go_frame); refine' tk 2 _ (some 5) rfl rfl (by kernel_rfl) (fun _ _ _ => id) (Or.inl ⟨by rfl, fun X hX => ?_⟩) hS ?_; rotate_left
  ·go_simp; exact rfl
  (try go_frame); refine' tk 3 _ (some 6) rfl rfl (by kernel_rfl) (fun _ _ _ => id) (Or.inl ⟨by rfl, fun X hX => ?_⟩) hS ?_; rotate_left
  ·go_simp; exact rfl
  (try go_frame); refine' tk 4 _ (some 7) rfl rfl (by kernel_rfl) (fun _ _ _ => id) (Or.inl ⟨by rfl, fun X hX => ?_⟩) hS ?_; rotate_left
  ·go_simp; exact rfl
  (try go_frame); refine' tk 5 _ (some 8) rfl rfl (by kernel_rfl) (fun _ _ _ => id) (Or.inl ⟨by rfl, fun X hX => ?_⟩) hS ?_; rotate_left
  ·go_simp; exact rfl
  (try go_frame); refine' tk 6 _ (some 9) rfl rfl (by kernel_rfl) (fun _ _ _ => id) (Or.inl ⟨by rfl, fun X hX => ?_⟩) hS ?_; rotate_left
  ·have hX := (show Y = X from hX); subst hX; go_simp; exact rfl
  (try go_frame); refine' tk 7 _ (some 10) rfl rfl (by kernel_rfl) (fun _ _ _ => id) (Or.inl ⟨by rfl, fun X hX => ?_⟩) hS ?_; rotate_left
  ·go_simp; exact rfl
  (try go_frame); refine' tk 8 _ (some 11) rfl rfl (by kernel_rfl) (fun _ _ _ => id) (Or.inl ⟨by rfl, fun X hX => ?_⟩) hS ?_; rotate_left
  ·go_simp; exact rfl
  (try go_frame); refine' tk 9 _ (some 12) rfl rfl (by kernel_rfl) (fun _ _ _ => id) (Or.inl ⟨by rfl, fun X hX => ?_⟩) hS ?_; rotate_left
  ·go_simp; exact rfl
  (try go_frame); refine' tk 10 _ (some 13) rfl rfl (by kernel_rfl) (fun _ _ _ => id) (Or.inl ⟨by rfl, fun X hX => ?_⟩) hS ?_; rotate_left
  ·go_simp; exact rfl
  (try go_frame); refine' tk 11 _ (some 14) rfl rfl (by kernel_rfl) (fun _ _ _ => id) (Or.inl ⟨by rfl, fun X hX => ?_⟩) hS ?_; rotate_left
  ·go_simp; exact rfl
  (try go_frame); refine' tk 12 _ (some 15) rfl rfl (by kernel_rfl) (fun _ _ _ => id) (Or.inl ⟨by rfl, fun X hX => ?_⟩) hS ?_; rotate_left
  ·have hX := (show Y = X from hX); subst hX; go_simp; exact rfl
  (try go_frame); refine' tk 13 _ (some 16) rfl rfl (by kernel_rfl) (fun _ _ _ => id) (Or.inl ⟨by rfl, fun X hX => ?_⟩) hS ?_; rotate_left
  ·go_simp; exact rfl
  (try go_frame); refine' tk 14 _ (some 17) rfl rfl (by kernel_rfl) (fun _ _ _ => id) (Or.inl ⟨by rfl, fun X hX => ?_⟩) hS ?_; rotate_left
  ·go_simp; exact rfl
  (try go_frame); refine' tk 15 _ (some 18) rfl rfl (by kernel_rfl) (fun _ _ _ => id) (Or.inl ⟨by rfl, fun X hX => ?_⟩) hS ?_; rotate_left
  ·go_simp; exact rfl
  (try go_frame); refine' tk 16 _ (some 19) rfl rfl (by kernel_rfl) (fun _ _ _ => id) (Or.inl ⟨by rfl, fun X hX => ?_⟩) hS ?_; rotate_left
  ·have hX := (show Y = X from hX); subst hX; go_simp; exact rfl
  (try go_frame); refine tk 17 (.bool ((r : Int) == (z : Int))) (some 20) rfl rfl (by kernel_rfl) (fun _ _ _ => id) (Or.inl ⟨by rfl, fun X hX => ?_⟩) hS ?_
  ·go_simp
  (try go_frame); refine' tk 18 _ (some 21) rfl rfl (by kernel_rfl) (fun _ _ _ => id) (Or.inl ⟨by rfl, fun X hX => ?_⟩) hS ?_; rotate_left
  ·go_simp; exact rfl
  (try go_frame); refine' tk 19 _ (some 2) rfl rfl (by kernel_rfl) (fun _ _ _ => id) (Or.inl ⟨by rfl, fun X hX => ?_⟩) hS ?_; rotate_left
  ·go_simp; exact rfl
  (try go_frame); refine wpAnyH_done (by kernel_rfl) ?_ _
  go_wp2_with fail
  go_ret
  exact ⟨by rw [HD.out]; first | rfl | simp, HM.out⟩
def stepI (read at' : Nat) (c : UInt8) (p : List Int × (Int → UInt8)) : List Int × (Int → UInt8) :=
 if (at' : Int) ∈ p.1 ∨ at' < read then p else (p.1 ++ [(at' : Int)], fun z => if z = (at' : Int) then c else p.2 z)
def fillK (read off : Nat) (data : List UInt8) (p : List Int × (Int → UInt8)) : Nat → List Int × (Int → UInt8)
 | 0 => p
 | k + 1 => match data[k]? with
  | some c => stepI read (off + k) c (fillK read off data p k)
  | none => fillK read off data p k
theorem fillK_mem {read off : Nat} {data : List UInt8} {p : List Int × (Int → UInt8)} {z : Int} : ∀ k, k ≤ data.length → (z ∈ (fillK read off data p k).1 ↔ z ∈ p.1 ∨ ((read : Int) ≤ z ∧ (off : Int) ≤ z ∧ z < (off : Int) + (k : Int)))
 | 0, _ => by
  unfold fillK
  constructor
  ·exact .inl
  ·rintro (h | h)
   ·exact h
   ·omega
 | k + 1, hk => by
  have ih := fillK_mem (read := read) (off := off) (data := data) (p := p) (z := z) k (by omega)
  have hx : data[k]? = some data[k] := List.getElem?_eq_getElem (by omega)
  unfold fillK
  rw [hx]
  dsimp only
  unfold stepI
  split
  ·rename_i h
   rw [ih]
   constructor
   ·rintro (h | h)
    ·exact .inl h
    ·exact .inr (by omega)
   ·rintro (h1 | h1)
    ·exact .inl h1
    ·by_cases e : z = ((off + k : Nat) : Int)
     ·subst e
      rcases h with h | h
      ·have := (fillK_mem (read := read) (off := off) (data := data) (p := p) (z := ((off + k : Nat) : Int)) k (by omega)).1 h
       rcases this with h3 | h3
       ·exact .inl h3
       ·omega
      ·omega
     ·exact .inr (by omega)
  ·rename_i h
   have h' : ¬ off + k < read := fun e => h (.inr e)
   simp only [List.mem_append, List.mem_singleton]
   rw [ih]
   constructor
   ·rintro ((h | h) | h)
    ·exact .inl h
    ·exact .inr (by omega)
    ·exact .inr (by omega)
   ·rintro (h1 | h1)
    ·exact .inl (.inl h1)
    ·by_cases e : z = ((off + k : Nat) : Int)
     ·exact .inr e
     ·exact .inl (.inr (by omega))
def badFin (o : IB) (E : Nat) (last : Bool) : Bool := (o.known && (decide (o.size < E) || (last && decide (E ≠ o.size)))) || (last && decide (E < o.top))
def putErr (o : IB) (off n : Nat) (last : Bool) : Int := if o.read + o.win < off + n then 9 else if badFin o (off + n) last = true then 10 else 0
def putI (o : IB) (off : Nat) (data : List UInt8) (last : Bool) : IB :=
 if putErr o off data.length last = 0 then
  { o with top := max o.top (off + data.length), size := if last then off + data.length else o.size, known := o.known || last, dom := (fillK o.read off data (o.dom, o.f) data.length).1, f := (fillK o.read off data (o.dom, o.f) data.length).2 }
 else o
def IC (B : Nat) (w w' : World) (ib mb : Nat) (o' : IB) : Prop := IBuf B w' ib mb o' ∧ Mod (IS ib mb) w w'
def PutR (B : Nat) (w w' : World) (ib mb : Nat) (o : IB) (off : Nat) (data : List UInt8) (last : Bool) (e : Ending) : Prop :=
 e = .returned (.int .i64 (putErr o off data.length last)) ∧ IC B w w' ib mb (putI o off data last)
theorem wpList_skipr {P : Program} {w w' : World} {ops : Array Oper} {rest : List Oper} {o : Oper} {a : Act} {Q : Exit → Act → World → Prop} (hg : o.guard = none) (hr : (execOp a.eval o).run P w = .ok .skip w') (h : wpList P ops Q rest (a.put o.dst undef) w') :
  wpList P ops Q (o :: rest) a w := by
 refine wpList_plain hg fun K hK => ?_
 unfold Oper.wp
 rw [hr]
 exact hK _ _ h
theorem exec_iput {w w' : World} {a : Act} {op : Oper} {m x v : Operand} {t : TypeId} (ho : op.op = .mapUpdate t m x v) {mv k e : Value} (hm : a.eval m = mv) (hx : a.eval x = k) (hv : a.eval v = e) (hr : (Instr.mapUpdate t mv k e).run Tryz.prog w = .ok () w') : (execOp a.eval op).run Tryz.prog w = .ok .skip w' := by
 unfold execOp
 simp only [ho, hm, hx, hv, Sem.run_bind, Sem.run_pure, Result.andThen_ok, hr]
theorem zero_u8 (w : World) : (zeroValue 5).run Tryz.prog w = .ok (.int .u8 0) w := by kernel_rfl
theorem putF_fill (z : Int) (c : UInt8) (f : Int → UInt8) : putF z (.int .u8 (c.toNat : Int)) (fun y => .int .u8 ((f y).toNat : Int)) = fun y => .int .u8 (((if y = z then c else f y : UInt8).toNat : Nat) : Int) := by
 funext y
 unfold putF
 split <;> rfl
end Go.Proofs.YtahgidkpjmecdaaGreatDoor
