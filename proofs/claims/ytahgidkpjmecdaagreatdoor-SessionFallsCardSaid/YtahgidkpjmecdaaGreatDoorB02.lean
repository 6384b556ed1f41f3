/- Parts of the proof: VarC VarD VarE Scope VarF AppS AppB GaB GaC GaD GaE. -/
import Derived.Test.YtahgidkpjmecdaaGreatDoorB01
import Derived.WalkSpells
import Derived.ScopeJumps
import Derived.Deep.RegionLaw
import Derived.Laws.Tables
import Derived.Laws.StructEq
import Derived.ChangeKeysEq
set_option maxRecDepth 100000
namespace Go.Proofs.YtahgidkpjmecdaaGreatDoor
open Go.RowKit
theorem OwnB.nil (w : World) (B : Nat) : OwnB w B (.slice none 0 0) [] := World.ownsRow_nil _ _ _ _
theorem wide_any (n : Nat) (size : Int) (w : World) (hT : Tabs w) (hs : -9223372036854775808 ≤ size ∧ size ≤ 9223372036854775807) :
  Calls Tryz.prog 86 #[.int .u64 (n : Int), .int .i64 size] w fun e w' => ∃ v, e = .returned v ∧ OwnB w' w.heap.size v (wideL n size) ∧ Mod (fun _ => False) w w' := by
 by_cases hf : fits n size = true
 ·have hp : 0 ≤ size := by rw [fits_iff] at hf; omega
  obtain ⟨s, rfl⟩ := Int.eq_ofNat_of_zero_le hp
  have e : wideL n (s : Int) = wd n s := by simp [wideL, hf]
  rw [e]
  exact wide_some n s w hT hf
 ·have e : wideL n size = [] := by simp [wideL, hf]
  rw [e]
  exact (wide_none n size w hs (by simpa using hf)).mono fun e w' ⟨h1, h2⟩ => ⟨_, h2, OwnB.nil _ _, h1 ▸ Mod.refl _ _⟩
theorem szN_le (n : Nat) : szN n ≤ 8 := by rcases szN_cases n with h | h | h | h | h <;> omega
set_option maxRecDepth 10000 in
theorem put_any (n : Nat) (w : World) (hT : Tabs w) :
  Calls Tryz.prog 48 #[.int .u64 (n : Int)] w fun e w' => ∃ v, e = .returned v ∧ OwnB w' w.heap.size v (putL n) ∧ Mod (fun _ => False) w w' := by
 have HT := Lib.hid hT
 clear hT
 have HS : Hid (-9223372036854775808 ≤ (szN n : Int) ∧ (szN n : Int) ≤ 9223372036854775807) := by have := szN_le n; exact ⟨by omega, by omega⟩
 go_enter Tryz.func48, Tryz.ntmps48
 go_wp2_with (first | (go_at_call 87; refine (size_any _ _).mono ?_; rintro e w' ⟨rfl, rfl⟩) | (go_at_call 86; refine (wide_any _ _ _ HT.out HS.out).mono ?_; rintro e w' ⟨v, rfl, hv, hM⟩))
 go_ret
 exact ⟨v, rfl, hv, hM⟩
theorem byts_val {w : World} {v : Value} {l : List UInt8} (h : Byts w v l) : ∃ a cap, v = .slice a l.length cap ∧ l.length ≤ cap ∧ cap ≤ maxLen ∧ (a = none → cap = 0) := Sl.val h
theorem byts_addr {w : World} {v : Value} {l : List UInt8} (h : Byts w v l) (hx : l ≠ []) :
  ∃ b off cap, v = .slice (some ⟨b, off, none⟩) l.length cap ∧ l.length ≤ cap ∧ cap ≤ maxLen ∧ ∀ j x, l[j]? = some x → w.cell? ⟨b, off + j, none⟩ = some (bv x) := by
 obtain ⟨b, off, cap, h1, h2, h3, h4⟩ := Sl.addr h (by simpa using hx)
 exact ⟨b, off, cap, h1, h2, h3, fun j x hj => h4 j (bv x) (by simp [hj])⟩
theorem take_snoc {α : Type} (l : List α) (k : Nat) (x : α) (h : l[k]? = some x) : l.take (k + 1) = l.take k ++ [x] := by
 rw [List.take_add_one, h]; rfl
set_option maxRecDepth 10000 in
theorem clone_any {w : World} {v : Value} {l : List UInt8} (h : Byts w v l) (hr : (l.length : Int) ≤ 140737488355328) :
  Calls Tryz.prog 124 #[v] w fun e w' => ∃ v', e = .returned v' ∧ OwnB w' w.heap.size v' l ∧ Mod (fun _ => False) w w' := by
 obtain ⟨a, cap, rfl, h1, h2, h3⟩ := byts_val h
 have hnil := fun (w : World) (a : Option Addr) (n c : Nat) => Lib.run_eql_slice_nil (P := Tryz.prog) w 31 5 a n c 0 0 Tryz.underlying31
 cases a with
 | none =>
  obtain rfl := h3 rfl
  obtain rfl : l = [] := List.eq_nil_of_length_eq_zero (by omega)
  clear h h1 h2 h3
  go_enter Tryz.func124, Tryz.ntmps124
  go_wp2
  go_ret
  exact ⟨_, rfl, OwnB.nil _ _, Mod.refl _ _⟩
 | some ad =>
  have H : Hid (Sl w 1 (.slice (some ad) l.length cap) l.length (l.map bv)) := h
  have HR := Lib.hid hr
  clear h h1 h2 hr h3
  obtain ⟨i0, hi, hz0, hz1, hz2⟩ := info_parts Tryz.info5
  generalize l.length = n at *
  go_enter Tryz.func124, Tryz.ntmps124
  go_wp2_with (at_builtin; go_must (refine wpList_append_sl rfl _ _ 31 rfl w.heap.size 5 i0 (.int .u8 0) 1 1 Tryz.underlying31 hi hz0 hz1 hz2 rfl (by decide) _ 0 [] rfl (World.ownsRow_made w #[] 0 (Nat.le_refl _) (by decide) rfl) _ n (l.map bv) rfl (H.out.kept ((Mod.refl (fun _ => False) w).alloc _) (fun _ _ h => h)) (bv_one l) (by have := HR.out; omega) (by decide) (by simp) ?_); intro v' w1 hown hgrow)
  go_ret
  have hl := H.out.1
  simp only [Nat.zero_add, List.nil_append] at hown
  refine ⟨v', rfl, ?_, ((Mod.refl _ w).alloc _).grown hgrow (fun k hk hlt => Nat.lt_irrefl _ ((Option.some.inj hk).symm ▸ hlt))⟩
  unfold OwnB
  have e : l.length = n := by simpa using hl
  rw [e]
  exact hown
def Rdr (w : World) (rb : Nat) (s : RS) : Prop :=
 (s.e ≠ 0 → s.l = []) ∧ ∃ a cap, Blk w rb #[.slice a s.l.length cap, .int .i64 s.e] 193 ∧ s.l.length ≤ cap ∧ cap ≤ maxLen ∧ (a = none → cap = 0) ∧ s.l.length ≤ 140737488355328 ∧
  ∀ j x, s.l[j]? = some x → ∃ bb off cs, a = some ⟨bb, off, none⟩ ∧ Blk w bb cs 5 ∧ cs[off + j]? = some (bv x)
theorem Rdr.lt {w : World} {rb : Nat} {s : RS} (h : Rdr w rb s) : rb < w.heap.size := by obtain ⟨_, a, cap, hb, _⟩ := h; exact hb.lt
theorem Mod.rdr {S : Nat → Prop} {w w' : World} {rb : Nat} {s : RS} (h : Mod S w w') (hr : Rdr w rb s) (h1 : ¬ S rb) (h2 : ∀ b cs, Blk w b cs 5 → ¬ S b) : Rdr w' rb s := by
 obtain ⟨h0, a, cap, hb, h3, h4, h5, h6, h7⟩ := hr
 refine ⟨h0, a, cap, h.blk hb h1, h3, h4, h5, h6, fun j x hj => ?_⟩
 obtain ⟨bb, off, cs, rfl, hbb, hc⟩ := h7 j x hj
 exact ⟨bb, off, cs, rfl, h.blk hbb (h2 bb cs hbb), hc⟩
theorem Rdr.kept {S : Nat → Prop} {w w' : World} {rb : Nat} {s : RS} (hr : Rdr w rb s) (h : Mod S w w') (hS : ∀ k, k < w.heap.size → ¬ S k) : Rdr w' rb s :=
 h.rdr hr (hS _ hr.lt) (fun _ _ hb => hS _ hb.lt)
theorem Rdr.heap {w w' : World} {rb : Nat} {s : RS} (hr : Rdr w rb s) (h : w'.heap = w.heap) : Rdr w' rb s := by
 obtain ⟨h0, a, cap, hb, h3, h4, h5, h6, h7⟩ := hr
 refine ⟨h0, a, cap, hb.heap h, h3, h4, h5, h6, fun j x hj => ?_⟩
 obtain ⟨bb, off, cs, rfl, hbb, hc⟩ := h7 j x hj
 exact ⟨bb, off, cs, rfl, hbb.heap h, hc⟩
theorem Rdr.made {w : World} {B rb : Nat} {v : Value} {l : List UInt8} (ho : OwnB w B v l) (hl : l.length ≤ 140737488355328) (hb : Blk w rb #[v, .int .i64 0] 193) : Rdr w rb ⟨l, 0⟩ := by
 obtain ⟨h1, h2⟩ := ho
 refine ⟨fun h => absurd rfl h, ?_⟩
 rcases h2 with ⟨rfl, h2⟩ | ⟨g, cap, cur, rfl, _, hg, hn, hm, hs, ht⟩
 ·have : l = [] := List.eq_nil_of_length_eq_zero (by omega)
  subst this
  exact ⟨none, 0, hb, Nat.le_refl _, by simp [maxLen], fun _ => rfl, hl, fun j x h => by simp at h⟩
 ·refine ⟨_, cap, hb, hn, hm, fun h => by simp at h, hl, fun j x hj => ⟨g, 0, cur, rfl, hg, ?_⟩⟩
  have e : (l.map bv)[j]? = some (bv x) := by simp [hj]
  rw [← ht, List.getElem?_take] at e
  split at e
  ·simpa using e
  ·simp at e
set_option maxRecDepth 10000 in
theorem read_any {w : World} {v : Value} {l : List UInt8} (h : Byts w v l) (hr : (l.length : Int) ≤ 140737488355328) :
  Calls Tryz.prog 199 #[v] w fun e w' => ∃ rb, e = .returned (.pointer (some ⟨rb, 0, none⟩)) ∧ w.heap.size ≤ rb ∧ Rdr w' rb ⟨l, 0⟩ ∧ Mod (fun _ => False) w w' := by
 have H := Lib.hid h
 have HR := Lib.hid hr
 obtain ⟨a, cap, rfl, _⟩ := byts_val h
 clear h hr
 go_enter Tryz.func199, Tryz.ntmps199
 go_wp2_with (go_at_call 124; refine (clone_any H.out HR.out).mono ?_; rintro e w1 ⟨v', rfl, ho, hM⟩; obtain ⟨a', cap', rfl, _⟩ := byts_val ho.byts)
 go_ret
 refine ⟨w1.heap.size, rfl, hM.size, ?_, hM.alloc _⟩
 refine Rdr.made (B := w.heap.size) ?_ (by have := HR.out; omega) (Blk.new _ _ _)
 exact World.ownsRow.alloc ho _
set_option maxRecDepth 10000 in
theorem bad_any {w : World} {rb : Nat} {s : RS} (h : Rdr w rb s) :
  Calls Tryz.prog 122 #[.pointer (some ⟨rb, 0, none⟩)] w fun e w' => w = w' ∧ e = .returned (.int .i64 s.e) := by
 obtain ⟨_, a, cap, hb, _⟩ := h
 have hc : w.cell? ⟨rb, 1, none⟩ = some (.int .i64 s.e) := hb.cellAt 1 rfl
 clear hb
 go_enter Tryz.func122, Tryz.ntmps122
 go_wp2
 go_ret
 exact ⟨rfl, rfl⟩
set_option maxRecDepth 10000 in
theorem left_any {w : World} {rb : Nat} {s : RS} (h : Rdr w rb s) :
  Calls Tryz.prog 79 #[.pointer (some ⟨rb, 0, none⟩)] w fun e w' => w = w' ∧ e = .returned (.int .i64 (s.l.length : Int)) := by
 obtain ⟨_, a, cap, hb, _⟩ := h
 have hc : w.cell? ⟨rb, 0, none⟩ = some (.slice a s.l.length cap) := hb.cellAt 0 rfl
 clear hb
 go_enter Tryz.func79, Tryz.ntmps79
 go_wp2
 go_ret
 exact ⟨rfl, rfl⟩
set_option maxRecDepth 10000 in
theorem fail_any {w : World} {rb : Nat} {s : RS} (e : Int) (h : Rdr w rb s) :
  Calls Tryz.prog 123 #[.pointer (some ⟨rb, 0, none⟩), .int .i64 e] w fun x w' => x = .returned (.tuple #[]) ∧ Rdr w' rb (s.fail e) ∧ Mod (fun k => k = rb) w w' := by
 have HR := Lib.hid h
 obtain ⟨_, a, cap, hb, _⟩ := h
 have HB := Lib.hid hb
 have hc : w.cell? ⟨rb, 1, none⟩ = some (.int .i64 s.e) := hb.cellAt 1 rfl
 have hc0 : w.cell? ⟨rb, 0, none⟩ = some (.slice a s.l.length cap) := hb.cellAt 0 rfl
 have hf0 := hb.free 0
 have hf1 := hb.free 1
 clear hb
 by_cases h0 : s.e = 0
 ·by_cases h1 : e = 0
  ·have hs : s.fail e = s := by simp [RS.fail, h1]
   rw [hs]
   have t0 : (s.e == 0) = true := by simp [h0]
   have t1 : (e != 0) = false := by simp [h1]
   clear h0 h1 hs
   go_enter Tryz.func123, Tryz.ntmps123
   go_wp2
   go_end0
   exact ⟨rfl, HR.out, Mod.refl _ _⟩
  ·have hs : s.fail e = ⟨[], e⟩ := by simp [RS.fail, h0, h1]
   rw [hs]
   have t0 : (s.e == 0) = true := by simp [h0]
   have t1 : (e != 0) = true := by simp [h1]
   clear h0 h1 hs
   go_enter Tryz.func123, Tryz.ntmps123
   go_wp2
   go_end0
   refine ⟨rfl, ⟨fun _ => rfl, none, 0, (HB.out.set 0 _).set 1 _, Nat.le_refl _, by simp [maxLen], fun _ => rfl, by simp, fun j x h => by simp at h⟩, ((Mod.refl (fun k => k = rb) w).setCell (fun _ => rfl) _).setCell (fun _ => rfl) _⟩
 ·have hs : s.fail e = s := by simp [RS.fail, h0]
  rw [hs]
  have t0 : (s.e == 0) = false := by simp [h0]
  clear h0 hs
  go_enter Tryz.func123, Tryz.ntmps123
  go_wp2
  go_end0
  exact ⟨rfl, HR.out, Mod.refl _ _⟩
theorem Blk.mod {w w' : World} {b : Nat} {cs : Array Value} {t : TypeId} (h : Blk w b cs t) (hM : Mod (fun _ => False) w w') : Blk w' b cs t := hM.blk h (fun h => h)
theorem rdr_part {w : World} {rb m n cap : Nat} {a : Option Addr} {s : RS} (_hB : Blk w rb #[.slice a s.l.length cap, .int .i64 s.e] 193)
  (h7 : ∀ j x, s.l[j]? = some x → ∃ bb off cs, a = some ⟨bb, off, none⟩ ∧ Blk w bb cs 5 ∧ cs[off + j]? = some (bv x)) (h5 : a = none → cap = 0) (hm : m = s.l.length) (hn : n ≤ m) (hmc : m ≤ cap) (hc : cap ≤ maxLen) :
  Byts w (.slice a n cap) (s.l.take n) := by
 have e : (s.l.take n).length = n := by simp; omega
 refine ⟨by simp, a, cap, by rw [e], by omega, hc, h5, fun j u hu => ?_⟩
 rw [List.getElem?_map, List.getElem?_take] at hu
 split at hu
 ·obtain ⟨x, hx, rfl⟩ := Option.map_eq_some_iff.1 hu
  obtain ⟨bb, off, cs, rfl, hb, hcs⟩ := h7 j x hx
  exact ⟨bb, off, rfl, hb.cellAt _ hcs⟩
 ·simp at hu
theorem rdr_rest {w w1 : World} {rb m n cap : Nat} {a a' : Option Addr} {s : RS} (hB : Blk w rb #[.slice a s.l.length cap, .int .i64 s.e] 193) (h0 : s.e = 0) (hM : Mod (fun _ => False) w w1)
  (h7 : ∀ j x, s.l[j]? = some x → ∃ bb off cs, a = some ⟨bb, off, none⟩ ∧ Blk w bb cs 5 ∧ cs[off + j]? = some (bv x)) (h5 : a = none → cap = 0) (hm : m = s.l.length) (hn : n ≤ m) (hmc : m ≤ cap) (hl : m ≤ 140737488355328)
  (ha : ¬ cap = n → a' = a.map (fun x => x.add n)) (hc : cap ≤ maxLen) {c' : Nat} (hc' : c' = cap - n) :
  Rdr (w1.setCell ⟨rb, 0, none⟩ (.slice a' (m - n) c')) rb ⟨s.l.drop n, 0⟩ := by
 have e : (s.l.drop n).length = m - n := by simp; omega
 subst hc'
 refine ⟨fun h => absurd rfl h, a', cap - n, ?_, by show (s.l.drop n).length ≤ _; omega, by omega, ?_, by rw [e]; omega, fun j x hj => ?_⟩
 ·have := (hB.mod hM).set 0 (.slice a' (m - n) (cap - n))
  rw [h0] at this
  rw [e]
  exact this
 ·intro h
  by_cases hcn : cap = n
  ·omega
  ·rw [ha hcn] at h
   have := h5 (by simpa using h)
   omega
 ·rw [List.getElem?_drop] at hj
  have hlt : n + j < s.l.length := (List.getElem?_eq_some_iff.1 hj).1
  obtain ⟨bb, off, cs, rfl, hbb, hcs⟩ := h7 _ _ hj
  refine ⟨bb, off + n, cs, ?_, (hbb.mod hM).setOther (Blk.ne hbb hB (by decide)) _, by rw [Nat.add_assoc]; exact hcs⟩
  rw [ha (by omega)]
  simp only [Option.map_some, Option.some.injEq]
  unfold Addr.add
  split
  ·simp_all
  ·rfl
set_option maxRecDepth 10000 in
theorem bytes_any {w : World} {rb : Nat} {s : RS} (n : Nat) (h : Rdr w rb s) :
  Calls Tryz.prog 78 #[.pointer (some ⟨rb, 0, none⟩), .int .u64 (n : Int)] w fun x w' => ∃ v, x = .returned v ∧ OwnB w' w.heap.size v (s.bytes n).1 ∧ Rdr w' rb (s.bytes n).2 ∧ Mod (fun k => k = rb) w w' := by
 have HR := Lib.hid h
 obtain ⟨hz, a, cap, hb, h3, h4, h5, h6, h7⟩ := h
 have HB := Lib.hid hb
 have H7 := Lib.hid h7
 have hc0 : w.cell? ⟨rb, 0, none⟩ = some (.slice a s.l.length cap) := hb.cellAt 0 rfl
 have hf0 := hb.free 0
 unfold maxLen at h4
 have hl : (s.l.length : Int) ≤ 140737488355328 := by omega
 have hcap : (cap : Int) ≤ 9223372036854775807 := by omega
 have hlc : (s.l.length : Int) ≤ cap := by omega
 obtain ⟨m, hm⟩ : ∃ m, m = s.l.length := ⟨_, rfl⟩
 rw [← hm] at hc0 hl hlc
 have HM := Lib.hid hm
 have H5 := Lib.hid h5
 clear hb h7 h6 h4 h3 hm h5
 by_cases h0 : s.e = 0
 ·have t0 : (s.e != 0) = false := by simp [h0]
  by_cases hn : (m : Int) < n
  ·have hs : s.bytes n = ([], s.fail 2) := by
    have := HM.out
    simp only [RS.bytes, RS.fail, h0]
    simp; omega
   rw [hs]
   clear h0 hz hs
   go_enter Tryz.func78, Tryz.ntmps78
   go_wp2_with (first | (go_at_call 122; refine (bad_any HR.out).mono ?_; rintro e w' ⟨rfl, rfl⟩) | (go_at_call 123; refine (fail_any _ HR.out).mono ?_; rintro e w' ⟨rfl, hr', hM⟩))
   go_ret
   exact ⟨_, rfl, OwnB.nil _ _, hr', hM⟩
  ·have hs : s.bytes n = (s.l.take n, ⟨s.l.drop n, 0⟩) := by
    have := HM.out
    simp only [RS.bytes, h0]
    simp; omega
   rw [hs]
   have hnm : (n : Int) ≤ m := by omega
   have H0 := Lib.hid h0
   clear h0 hz hs
   go_enter Tryz.func78, Tryz.ntmps78
   have hby : Hid (Byts w (.slice a n cap) (s.l.take n)) := rdr_part HB.out H7.out H5.out HM.out (by omega) (by omega) (by unfold maxLen; omega)
   have hcr : Hid (((s.l.take n).length : Int) ≤ 140737488355328) := by show _ ≤ _; simp; omega
   go_wp2_with (first | (go_at_call 122; refine (bad_any HR.out).mono ?_; rintro e w' ⟨rfl, rfl⟩) | (go_at_call 124; refine (clone_any hby.out hcr.out).mono ?_; rintro e w1 ⟨v', rfl, ho, hM⟩; have hc1 := hM.cellAt hc0 (fun h => h); have hf1 := (HB.out.mod hM).free 0))
   all_goals go_ret
   all_goals
    refine ⟨v', rfl, ?_, ?_, (show Mod (fun k => k = rb) w w1 from hM.mono (fun _ _ h => h.elim)).setCell (fun _ => rfl) _⟩
    ·refine (((Mod.refl (fun k => k = rb) w1).setCell (fun _ => rfl) _).own ho fun g hg hk => ?_)
     subst hk
     have := (ho.lt _ hg).1
     have := HB.out.lt
     omega
    ·refine rdr_rest HB.out H0.out hM H7.out H5.out HM.out (by omega) (by omega) (by omega) (fun hc => ?_) (by unfold maxLen; omega) (by first | rfl | omega)
     all_goals first | rfl | exact absurd (by assumption) hc | exact absurd hc (by assumption)
 ·have t0 : (s.e != 0) = true := by simp [h0]
  have hs : s.bytes n = ([], s) := by simp [RS.bytes, h0]
  rw [hs]
  clear h0 hz hs
  go_enter Tryz.func78, Tryz.ntmps78
  go_wp2_with (first | (go_at_call 122; refine (bad_any HR.out).mono ?_; rintro e w' ⟨rfl, rfl⟩))
  go_ret
  exact ⟨_, rfl, OwnB.nil _ _, HR.out, Mod.refl _ _⟩
def fwd (P : Program) (c : Code) (Q : Exit → Act → World → Prop) : Exit → Act → World → Prop
 | .goto l, a, w => ∃ rest, findLabel c l = some rest ∧ rest.wp P (Exit.noGoto Q) a w
 | e, a, w => Q e a w
theorem fwd_ret {P : Program} {c : Code} {Q : Exit → Act → World → Prop} {a : Act} {w : World} (h : Q .ret a w) : fwd P c Q .ret a w := h
theorem fwd_goto {P : Program} {c rest : Code} {Q : Exit → Act → World → Prop} {a : Act} {w : World} (l : Nat) (hf : findLabel c l = some rest) (h : rest.wp P (Exit.noGoto Q) a w) : fwd P c Q (.goto l) a w := ⟨rest, hf, h⟩
theorem noGoto_ret {Q : Exit → Act → World → Prop} {a : Act} {w : World} (h : Q .ret a w) : Exit.noGoto Q .ret a w := h
theorem wp_scope_fwd {P : Program} {a : Act} {w : World} {Q : Exit → Act → World → Prop} {c : Code} (h : c.wp P (fwd P c Q) a w) : (Code.scope c).wp P Q a w := by
 intro b k cs
 obtain ⟨e, a₁, w₁, hq, harr⟩ := h b (.inScope c :: k) cs
 cases e with
 | normal => exact ⟨.normal, a₁, w₁, hq, .head step_scope (Steps.trans harr (.one step_inScope))⟩
 | exit id => exact ⟨.exit id, a₁, w₁, hq, fun k' hk => .head step_scope (harr k' (by simp [exitTo, hk]))⟩
 | goto l =>
  obtain ⟨rest, hf, hr⟩ := hq
  have hg : gotoIn l (.inScope c :: k) = some (.code rest :: .inScope c :: k) := by simp [gotoIn, hf]
  obtain ⟨e₂, a₂, w₂, hq₂, harr₂⟩ := hr b (.inScope c :: k) cs
  have hs : Steps P (lone (b.at a (.code (.scope c) :: k)) cs w) (lone (b.at a₁ (.code rest :: .inScope c :: k)) cs w₁) := .head step_scope (harr _ hg)
  cases e₂ with
  | normal => exact ⟨.normal, a₂, w₂, hq₂, hs.trans (Steps.trans harr₂ (.one step_inScope))⟩
  | exit id => exact ⟨.exit id, a₂, w₂, hq₂, fun k' hk => hs.trans (harr₂ k' (by simp [exitTo, hk]))⟩
  | goto l => exact hq₂.elim
  | ret => exact ⟨_, a₂, w₂, hq₂, .of_steps hs harr₂⟩
  | panic ch => exact ⟨_, a₂, w₂, hq₂, .of_steps hs harr₂⟩
  | outgrown => exact ⟨_, a₂, w₂, hq₂, .of_steps hs harr₂⟩
 | ret => exact ⟨_, a₁, w₁, hq, .of_steps (.one step_scope) harr⟩
 | panic ch => exact ⟨_, a₁, w₁, hq, .of_steps (.one step_scope) harr⟩
 | outgrown => exact ⟨_, a₁, w₁, hq, .of_steps (.one step_scope) harr⟩
theorem bytes_le (s : RS) (n : Nat) : (s.bytes n).1.length ≤ n := by
 unfold RS.bytes; split
 ·simp
 ·split
  ·simp
  ·simp; omega
set_option maxRecDepth 10000 in
theorem byte_any {w : World} {rb : Nat} {s : RS} (h : Rdr w rb s) :
  Calls Tryz.prog 183 #[.pointer (some ⟨rb, 0, none⟩)] w fun x w' => x = .returned (.int .u8 (s.byte.1.toNat : Int)) ∧ Rdr w' rb s.byte.2 ∧ Mod (fun k => k = rb) w w' := by
 have H := Lib.hid h
 clear h
 have HB := Lib.hid (@bytes_any w rb s 1 H.out)
 have hd : s.byte.1 = (s.bytes 1).1.headD 0 := rfl
 have hr : s.byte.2 = (s.bytes 1).2 := rfl
 have hle := bytes_le s 1
 rw [hd, hr]
 generalize (s.bytes 1).2 = s' at *
 generalize (s.bytes 1).1 = l at *
 clear hd hr
 cases l with
 | nil =>
  go_enter Tryz.func183, Tryz.ntmps183
  go_wp2_with (go_at_call 78; refine (HB.out).mono ?_; rintro e w1 ⟨v, rfl, ho, hr, hM⟩; obtain ⟨a, cap, rfl, _⟩ := byts_val ho.byts; have hl0 := List.length_nil (α := UInt8))
  go_ret
  exact ⟨rfl, hr, hM⟩
 | cons c r =>
  obtain rfl : r = [] := List.eq_nil_of_length_eq_zero (by simpa using hle)
  clear hle
  go_enter Tryz.func183, Tryz.ntmps183
  go_wp2_with (go_at_call 78; refine (HB.out).mono ?_; rintro e w1 ⟨v, rfl, ho, hr, hM⟩; obtain ⟨b, off, cap, rfl, _, _, hc⟩ := byts_addr ho.byts (by simp); have hc0 : w1.cell? ⟨b, off, none⟩ = some (.int .u8 (c.toNat : Int)) := hc 0 c rfl; clear hc)
  go_ret
  exact ⟨rfl, hr, hM⟩
set_option maxRecDepth 10000 in
theorem int_nil {w : World} {rb : Nat} {s : RS} (h : Rdr w rb s) (hs : s.l = []) :
  Calls Tryz.prog 82 #[.pointer (some ⟨rb, 0, none⟩)] w fun x w' => x = .returned (.int .u64 (s.int.1 : Int)) ∧ Rdr w' rb s.int.2 ∧ Mod (fun k => k = rb) w w' := by
 have H := Lib.hid h
 have e1 : s.int = (0, s.fail 2) := by simp [RS.int, hs]
 have hl := left_any h
 rw [hs] at hl
 have HL := Lib.hid hl
 rw [e1]
 clear h hl hs e1
 go_enter Tryz.func82, Tryz.ntmps82
 go_wp2_with fail
 refine wp_scope_fwd ?_
 go_wp2_with (first | (with_reducible refine wp_label ?_) | ((with_reducible refine wp_goto ?_); refine fwd_goto 0 rfl ?_) | (go_at_call 79; refine (HL.out).mono ?_; rintro e w1 ⟨rfl, rfl⟩) | (go_at_call 123; refine (fail_any _ H.out).mono ?_; rintro e w' ⟨rfl, hr', hM⟩))
 refine noGoto_ret ?_
 go_ret
 exact ⟨rfl, hr', hM⟩
theorem rdr_head {w : World} {rb : Nat} {s : RS} {c : UInt8} {r : List UInt8} (h : Rdr w rb s) (hs : s.l = c :: r) :
  s.e = 0 ∧ ∃ bb off cap, w.cell? ⟨rb, 0, none⟩ = some (.slice (some ⟨bb, off, none⟩) s.l.length cap) ∧ w.cell? ⟨bb, off, none⟩ = some (.int .u8 (c.toNat : Int)) := by
 obtain ⟨h0, a, cap, hb, h3, h4, h5, h6, h7⟩ := h
 obtain ⟨bb, off, cs, rfl, hbb, hc⟩ := h7 0 c (by simp [hs])
 refine ⟨?_, bb, off, cap, hb.cellAt 0 rfl, hbb.cellAt off hc⟩
 apply Classical.byContradiction
 intro h
 rw [h0 h] at hs
 simp at hs
theorem lenOf_le (c : UInt8) : 1 ≤ lenOf c ∧ lenOf c ≤ 8 := by
 have h := c.toNat_lt
 unfold lenOf
 rcases (show c.toNat / 64 = 0 ∨ c.toNat / 64 = 1 ∨ c.toNat / 64 = 2 ∨ c.toNat / 64 = 3 by omega) with e | e | e | e <;> rw [e] <;> decide
set_option maxRecDepth 10000 in
theorem int_short {w : World} {rb : Nat} {s : RS} {c : UInt8} {r : List UInt8} (h : Rdr w rb s) (hs : s.l = c :: r) (hlt : s.l.length < lenOf c) :
  Calls Tryz.prog 82 #[.pointer (some ⟨rb, 0, none⟩)] w fun x w' => x = .returned (.int .u64 (s.int.1 : Int)) ∧ Rdr w' rb s.int.2 ∧ Mod (fun k => k = rb) w w' := by
 have H := Lib.hid h
 have e1 : s.int = (0, s.fail 2) := by simp only [RS.int, hs]; rw [if_pos (by simpa [hs] using hlt)]
 obtain ⟨he0, bb, off, cap, hc0, hcc⟩ := rdr_head h hs
 have hl := left_any h
 have hpos : 0 < s.l.length := by simp [hs]
 obtain ⟨m, hm⟩ : ∃ m, m = s.l.length := ⟨_, rfl⟩
 rw [← hm] at hl hc0 hpos hlt
 have HL := Lib.hid hl
 have HS := Lib.hid hs
 have hc256 : (c.toNat : Int) < 256 := by have := c.toNat_lt; omega
 have hpi : (0 : Int) < m := by omega
 have hm0 : ((m : Int) == 0) = false := by simp; omega
 obtain ⟨z, hz⟩ : ∃ z, z = lenOf c := ⟨_, rfl⟩
 have hzp : (2 : Int) ^ (c.toNat / 64) = (z : Int) := by rw [hz]; unfold lenOf; simp
 have hz8 : (z : Int) ≤ 8 := by have := lenOf_le c; omega
 have hltz : (m : Int) < z := by omega
 rw [e1]
 clear h hl hs e1 hm hpos hlt hz he0
 go_enter Tryz.func82, Tryz.ntmps82
 go_wp2_with fail
 refine wp_scope_fwd ?_
 go_wp2_with (first | (with_reducible refine wp_label ?_) | ((with_reducible refine wp_goto ?_); refine fwd_goto 0 rfl ?_) | (go_at_call 79; refine (HL.out).mono ?_; rintro e w1 ⟨rfl, rfl⟩) | (go_at_call 123; refine (fail_any _ H.out).mono ?_; rintro e w' ⟨rfl, hr', hM⟩))
 refine noGoto_ret ?_
 go_ret
 exact ⟨rfl, hr', hM⟩
theorem valOf_lt' (l : List UInt8) (n k : Nat) (hn : l.length = n) (h8 : (n : Int) ≤ 8) (hk : k < n) (h0 : 0 < k) : valOf (l.take k) < 18014398509481984 := by
 have h := valOf_lt (l.take k) (by intro e; have := congrArg List.length e; rw [List.length_take, List.length_nil] at this; omega)
 have e : (l.take k).length = k := by rw [List.length_take]; omega
 rw [e] at h
 refine Nat.lt_of_lt_of_le h ?_
 have : 256 ^ (k - 1) ≤ 256 ^ 6 := Nat.pow_le_pow_right (by omega) (by omega)
 omega
set_option maxRecDepth 10000 in
set_option maxHeartbeats 1000000 in
theorem int_some {w : World} {rb : Nat} {s : RS} {c : UInt8} {r : List UInt8} (h : Rdr w rb s) (hs : s.l = c :: r) (hlt : lenOf c ≤ s.l.length) :
  Calls Tryz.prog 82 #[.pointer (some ⟨rb, 0, none⟩)] w fun x w' => x = .returned (.int .u64 (s.int.1 : Int)) ∧ Rdr w' rb s.int.2 ∧ Mod (fun k => k = rb) w w' := by
 have H := Lib.hid h
 have e1 : s.int = (valOf (s.bytes (lenOf c)).1, (s.bytes (lenOf c)).2) := by simp only [RS.int, hs]; rw [if_neg (by simpa [hs] using hlt)]
 obtain ⟨he0, bb, off, cap, hc0, hcc⟩ := rdr_head h hs
 have hl := left_any h
 have hpos : 0 < s.l.length := by simp [hs]
 have hbs : (s.bytes (lenOf c)).1 = s.l.take (lenOf c) := by
  unfold RS.bytes; rw [if_neg (by simp [he0]), if_neg (by omega)]
 have hbl : (s.bytes (lenOf c)).1.length = lenOf c := by rw [hbs]; simp; omega
 obtain ⟨m, hm⟩ : ∃ m, m = s.l.length := ⟨_, rfl⟩
 rw [← hm] at hl hc0 hpos hlt
 have HL := Lib.hid hl
 have HS := Lib.hid hs
 have HBY := Lib.hid (@bytes_any w rb s (lenOf c) H.out)
 have hc256 : (c.toNat : Int) < 256 := by have := c.toNat_lt; omega
 have hpi : (0 : Int) < m := by omega
 have hm0 : ((m : Int) == 0) = false := by simp; omega
 rw [e1]
 generalize (s.bytes (lenOf c)).2 = s' at *
 generalize (s.bytes (lenOf c)).1 = l at *
 obtain ⟨z, hz⟩ : ∃ z, z = lenOf c := ⟨_, rfl⟩
 rw [← hz] at HBY hbl hlt
 have hzp : (2 : Int) ^ (c.toNat / 64) = (z : Int) := by rw [hz]; unfold lenOf; simp
 have hz8 : (z : Int) ≤ 8 := by have := lenOf_le c; omega
 have hz1 : (1 : Int) ≤ z := by have := lenOf_le c; omega
 have hltz : (z : Int) ≤ m := by omega
 have HBL := Lib.hid hbl
 clear h hl hs e1 hm hpos hlt hz he0 hbs hbl
 go_enter Tryz.func82, Tryz.ntmps82
 go_wp2_with fail
 refine wp_scope_fwd ?_
 go_wp2_with (first | (with_reducible refine wp_label ?_) | ((with_reducible refine wp_goto ?_); refine fwd_goto 0 rfl ?_) | (go_at_call 79; refine (HL.out).mono ?_; rintro e w1 ⟨rfl, rfl⟩) | (go_at_call 78; refine (HBY.out).mono ?_; rintro e w1 ⟨v, rfl, ho, hr, hM⟩; obtain ⟨b2, off2, cap2, rfl, _, _, hc2⟩ := byts_addr ho.byts (by intro e; have := HBL.out; rw [e] at this; simp at this; omega); rw [HBL.out]; have HC2 := Lib.hid hc2; clear hc2))
 go_loop [3, 27] (fun v i => ∃ k : Nat, k ≤ z ∧ i = .int .i64 k ∧ v = .int .u64 (valOf (l.take k) : Int)) (fun _ i => z - (intOf i).toNat)
 case atStart => exact ⟨0, Nat.zero_le _, rfl, by simp [valOf]⟩
 case round =>
  obtain ⟨k, hk, rfl, rfl⟩ := hrel
  by_cases hlt : (k : Int) < z
  ·have hkl : k < l.length := by have := HBL.out; omega
   have e1 : l[k]? = some l[k] := List.getElem?_eq_getElem hkl
   have g1 : w1.cell? ⟨b2, off2 + k, none⟩ = some (bv l[k]) := HC2.out k _ e1
   have hsn := take_snoc l k _ e1
   generalize l[k] = x at *
   unfold bv at g1
   have HE := Lib.hid e1
   have HSN := Lib.hid hsn
   clear e1 hkl hsn
   by_cases h0 : k = 0
   ·subst h0
    rw [Nat.add_zero] at g1
    have hv : valOf (l.take (0 + 1)) = x.toNat % 64 := by rw [HSN.out]; rfl
    have ha := and63 x
    have hor := or_low 0 (x.toNat % 64) (by omega) (by omega)
    simp only [Int.natCast_zero, Int.zero_mul, Nat.zero_mul, Nat.zero_add] at hor
    have HV := Lib.hid hv
    clear hv
    have hy : ((x.toNat % 64 : Nat) : Int) < 64 := by omega
    have hy0 : 0 ≤ ((x.toNat % 64 : Nat) : Int) := by omega
    have hx := x.toNat_lt
    have hx2 : (x.toNat : Int) < 256 := by omega
    clear hx
    generalize x.toNat % 64 = y at *
    simp only [show ((valOf (List.take 0 l) : Nat) : Int) = 0 from rfl]
    go_wp2
    go_round
    case rel => exact ⟨1, by omega, by go_num, by rw [show l.take 1 = l.take (0 + 1) from rfl, HV.out]⟩
    case measure => simp [intOf]; omega
   ·have hv : valOf (l.take (k + 1)) = valOf (l.take k) * 256 + x.toNat := by
     rw [HSN.out]; exact valOf_snoc _ _ (by intro e; have := congrArg List.length e; rw [List.length_take, List.length_nil] at this; have := HBL.out; omega)
    have hb := valOf_lt' l z k HBL.out hz8 (by omega) (by omega)
    have hor := or_low (valOf (l.take k)) x.toNat hb x.toNat_lt
    have HV := Lib.hid hv
    have hbi : (valOf (l.take k) : Int) < 18014398509481984 := by omega
    have hx := x.toNat_lt
    have hx2 : (x.toNat : Int) < 256 := by omega
    have hk0 : ((k : Int) == 0) = false := by simp; omega
    clear hv hb hx h0
    generalize valOf (l.take k) = u at *
    go_wp2
    go_round
    case rel => exact ⟨k + 1, by omega, by go_num, by rw [HV.out]; first | rfl | (simp; done) | (push_cast; rfl)⟩
    case measure => simp [intOf]; omega
  ·go_wp2
   refine fwd_ret ?_
   go_ret
   exact ⟨by first | rfl | (rw [List.take_of_length_le (by have := HBL.out; omega)]; rfl), hr, hM⟩
theorem int_any {w : World} {rb : Nat} {s : RS} (h : Rdr w rb s) :
  Calls Tryz.prog 82 #[.pointer (some ⟨rb, 0, none⟩)] w fun x w' => x = .returned (.int .u64 (s.int.1 : Int)) ∧ Rdr w' rb s.int.2 ∧ Mod (fun k => k = rb) w w' := by
 cases hs : s.l with
 | nil => exact int_nil h hs
 | cons c r =>
  by_cases hlt : s.l.length < lenOf c
  ·exact int_short h hs hlt
  ·exact int_some h hs (by omega)
theorem step_append_sl {P : Program} {w : World} {ops : Array Oper} {o : Oper} {a : Act} {K : Act → World → Prop} {Q : Exit → Act → World → Prop} {E : Prop} (hgd : o.guard = none) (s x : Operand) (t : TypeId)
  (ho : o.op = .call { callee := .builtin .append, args := #[s, x], argTypes := #[t, t] })
  (base : Nat) (e : TypeId) (i : TypeInfo) (z : Value) (size bytes : Nat) (ht : P.underlying t = some (.slice e)) (hi : P.info? e = some i) (hz : i.zero = some z)
  (hsize : i.size = size) (hby : i.bytes = bytes) (hzs : z.cells.size = size) (hsz : 0 < size)
  (v : Value) (n : Nat) (xs : List Value) (hs : a.eval s = v) (hown : w.ownsRow base e size v n xs)
  (sv : Value) (m : Nat) (news : List Value) (hx : a.eval x = sv) (hsl : Sl w size sv m news) (h1 : ∀ u ∈ news, u.oneCell' = true)
  (hbytes : (n + m) * bytes ≤ 140737488355328) (hb0 : 0 < bytes) (hbase : base ≤ w.heap.size)
  (h : ∀ v' w', w'.ownsRow base e size v' (n + m) (xs ++ news) → w.grownBy w' v.ownBlock → K (a.put o.dst v') w') :
  if Region.wanted o (yielded ops a.tmps) = true then Oper.wp P o a w K Q else E := by
 have hw : Region.wanted o (yielded ops a.tmps) = true := by simp [Region.wanted, hgd]
 rw [if_pos hw]
 have h63 : n + m ≤ maxLen := by
  have := Nat.le_trans (Nat.le_mul_of_pos_right (n + m) hb0) hbytes
  unfold maxLen; omega
 obtain ⟨hl, ao, c, rfl, hc1, hc2, hc3, hc4⟩ := hsl
 cases ao with
 | none =>
  obtain rfl := hc3 rfl
  obtain rfl : m = 0 := by omega
  obtain rfl : news = [] := List.eq_nil_of_length_eq_zero (by simpa using hl)
  have hrun := run_append_owned_none (P := P) (w := w) base t o.type e i size ht hi v n xs hown
  unfold Oper.wp
  simp [execOp, ho, resolve, invoke, builtin, hs, hx, hrun, Result.andThen]
  exact h v w (by simpa using hown) (World.grownBy.refl _ _)
 | some ad =>
  refine wp_append_own w s x t ho base e i z size bytes ht hi hz hsize hby hzs hsz v n xs hs hown ad m c news hx hl ?_ h1 h63 hbytes hbase (fun v' w' h2 h3 _ => h v' w' h2 h3)
  intro j u hu
  obtain ⟨b, off, he, hcell⟩ := hc4 j u hu
  simp at he; subst he
  rw [Addr.add_lit]; exact hcell
theorem own_mono {w : World} {B B' : Nat} {e : TypeId} {size n : Nat} {v : Value} {xs : List Value} (h : w.ownsRow B e size v n xs) (hB : B' ≤ B) : w.ownsRow B' e size v n xs := by
 obtain ⟨h1, h2⟩ := h
 refine ⟨h1, ?_⟩
 rcases h2 with h2 | ⟨g, cap, cur, hv, hg, r⟩
 ·exact .inl h2
 ·exact .inr ⟨g, cap, cur, hv, by omega, r⟩
theorem OwnB.kept {S : Nat → Prop} {w w' : World} {B : Nat} {v : Value} {l : List UInt8} (h : OwnB w B v l) (hM : Mod S w w') (hS : ∀ g, v.ownBlock = some g → ¬ S g) : OwnB w' B v l := hM.own h hS
theorem OwnB.keptF {w w' : World} {B : Nat} {v : Value} {l : List UInt8} (h : OwnB w B v l) (hM : Mod (fun _ => False) w w') : OwnB w' B v l := hM.own h (fun _ _ h => h)
theorem OwnB.drew {w : World} {B : Nat} {v : Value} {l : List UInt8} (h : OwnB w B v l) : OwnB w.drew B v l := h.keptF (Mod.refl _ _).drew
theorem OwnB.alloc {w : World} {B : Nat} {v : Value} {l : List UInt8} (h : OwnB w B v l) (o : Obj) : OwnB (w.alloc o) B v l := h.keptF ((Mod.refl _ _).alloc o)
theorem OwnB.mono {w : World} {B B' : Nat} {v : Value} {l : List UInt8} (h : OwnB w B v l) (hB : B' ≤ B) : OwnB w B' v l := own_mono h hB
theorem own_lit (w : World) (l : List UInt8) (cs : Array Value) (n B : Nat) (hc : cs = (l.map bv).toArray) (hn : l.length = n) (hm : n ≤ maxLen) (hB : B ≤ w.heap.size) :
  OwnB (w.alloc (.cells cs 5)) B (.slice (some ⟨w.heap.size, 0, none⟩) n n) l := by
 subst hc; subst hn
 exact own_of_blk (Blk.new _ _ _) hB (by simp) hm
theorem byts_kept {w w' : World} {v : Value} {l : List UInt8} (h : Byts w v l) (hM : Mod (fun _ => False) w w') : Byts w' v l := h.kept hM (fun _ _ h => h)
theorem byts_lit (w : World) (l : List UInt8) (cs : Array Value) (n : Nat) (hc : cs = (l.map bv).toArray) (hn : l.length = n) (hm : n ≤ maxLen) :
  Byts (w.alloc (.cells cs 5)) (.slice (some ⟨w.heap.size, 0, none⟩) n n) l := (own_lit w l cs n 0 hc hn hm (Nat.zero_le _)).byts
theorem grown_mod {w0 w w' : World} {B : Nat} {v : Value} {l : List UInt8} (hM : Mod (fun _ => False) w0 w) (hg : w.grownBy w' v.ownBlock) (ho : OwnB w B v l) (hB : w0.heap.size ≤ B) : Mod (fun _ => False) w0 w' :=
 hM.grown hg (fun k hk hlt => by have := (World.ownsRow.lt ho k hk).1; omega)
structure App (w w' : World) (B n : Nat) (v v' : Value) (l : List UInt8) : Prop where
 own : OwnB w' B v' l
 byts : Byts w' v' l
 val : ∃ a c, v' = .slice a n c
 mod : ∀ {w0 : World} {S : Nat → Prop}, Mod S w0 w → (∀ g, v.ownBlock = some g → g < w0.heap.size → S g) → Mod S w0 w'
 lt : ∀ g, v.ownBlock = some g → B ≤ g
theorem step_append_b {w : World} {ops : Array Oper} {o : Oper} {a : Act} {K : Act → World → Prop} {Q : Exit → Act → World → Prop} {E : Prop} (hgd : o.guard = none) (s x : Operand)
  (ho : o.op = .call { callee := .builtin .append, args := #[s, x], argTypes := #[31, 31] })
  (v : Value) (l : List UInt8) (B n : Nat) (hs : a.eval s = v) (hown : OwnB w B v l)
  (sv : Value) (news : List UInt8) (hx : a.eval x = sv) (hsl : Byts w sv news) (L : List UInt8) (hL : L = l ++ news) (hn : l.length + news.length = n) (hbytes : (n : Int) ≤ 140737488355328) (hbase : B ≤ w.heap.size)
  (h : ∀ ap cp w', App w w' B n v (.slice ap n cp) L → K (a.put o.dst (.slice ap n cp)) w') :
  if Region.wanted o (yielded ops a.tmps) = true then Oper.wp Tryz.prog o a w K Q else E := by
 subst hL
 obtain ⟨i0, hi, hz0, hz1, hz2⟩ := info_parts Tryz.info5
 refine step_append_sl hgd s x 31 ho B 5 i0 (.int .u8 0) 1 1 Tryz.underlying31 hi hz0 hz1 hz2 rfl (by decide) v l.length (l.map bv) hs hown sv news.length (news.map bv) hx hsl (bv_one _) (by omega) (by decide) hbase ?_
 intro v' w' ho' hg
 have ho2 : OwnB w' B v' (l ++ news) := by unfold OwnB; simpa using ho'
 obtain ⟨ap, cp, rfl, _⟩ := byts_val ho2.byts
 have e : (l ++ news).length = n := by simpa using hn
 rw [e] at ho2 ⊢
 exact h ap cp w' ⟨ho2, ho2.byts, ⟨_, _, rfl⟩, fun hM hS => hM.grown hg (fun k hk hlt => hS k hk hlt), fun g hg' => (World.ownsRow.lt hown g hg').1⟩
theorem wpList_append_b {w : World} {ops : Array Oper} {rest : List Oper} {o : Oper} {a : Act} {Q : Exit → Act → World → Prop} (hgd : o.guard = none) (s x : Operand)
  (ho : o.op = .call { callee := .builtin .append, args := #[s, x], argTypes := #[31, 31] })
  (v : Value) (l : List UInt8) (B n : Nat) (hs : a.eval s = v) (hown : OwnB w B v l)
  (sv : Value) (news : List UInt8) (hx : a.eval x = sv) (hsl : Byts w sv news) (L : List UInt8) (hL : L = l ++ news) (hn : l.length + news.length = n) (hbytes : (n : Int) ≤ 140737488355328) (hbase : B ≤ w.heap.size)
  (h : ∀ ap cp w', App w w' B n v (.slice ap n cp) L → wpList Tryz.prog ops Q rest (a.put o.dst (.slice ap n cp)) w') : wpList Tryz.prog ops Q (o :: rest) a w := by
 subst hL
 obtain ⟨i0, hi, hz0, hz1, hz2⟩ := info_parts Tryz.info5
 refine wpList_append_sl hgd s x 31 ho B 5 i0 (.int .u8 0) 1 1 Tryz.underlying31 hi hz0 hz1 hz2 rfl (by decide) v l.length (l.map bv) hs hown sv news.length (news.map bv) hx hsl (bv_one _) (by omega) (by decide) hbase ?_
 intro v' w' ho' hg
 have ho2 : OwnB w' B v' (l ++ news) := by unfold OwnB; simpa using ho'
 obtain ⟨ap, cp, rfl, _⟩ := byts_val ho2.byts
 have e : (l ++ news).length = n := by simpa using hn
 rw [e] at ho2 ⊢
 exact h ap cp w' ⟨ho2, ho2.byts, ⟨_, _, rfl⟩, fun hM hS => hM.grown hg (fun k hk hlt => hS k hk hlt), fun g hg' => (World.ownsRow.lt hown g hg').1⟩
theorem App.modF {w w' w0 : World} {B n : Nat} {v v' : Value} {l : List UInt8} (h : App w w' B n v v' l) (hM : Mod (fun _ => False) w0 w) (hB : w0.heap.size ≤ B) : Mod (fun _ => False) w0 w' :=
 h.mod hM (fun g hg hlt => by have := h.lt g hg; omega)
def frL (f : Fr) (vd vr : Value) : List Value := [.int .i64 f.k, .int .u64 (f.id : Int), .int .u64 (f.a : Int), .int .u64 (f.b : Int), .int .u64 (f.c : Int), .bool f.fl, vd, vr] ++ f.t.map bv
def frC (f : Fr) (vd vr : Value) : Array Value := (frL f vd vr).toArray
def frV (f : Fr) (vd vr : Value) : Value := .agg (frC f vd vr)
def rgC (x : Nat × Nat) : List Value := [.int .u64 (x.1 : Int), .int .u64 (x.2 : Int)]
def RgV (w : World) (v : Value) (l : List (Nat × Nat)) : Prop := Sl w 2 v l.length (l.flatMap rgC)
theorem rgC_one (l : List (Nat × Nat)) : ∀ u ∈ l.flatMap rgC, u.oneCell' = true := by
 intro u hu
 obtain ⟨s, _, h⟩ := List.mem_flatMap.1 hu
 simp only [rgC, List.mem_cons, List.not_mem_nil, or_false] at h
 rcases h with rfl | rfl <;> rfl
theorem rgC_at : ∀ (l : List (Nat × Nat)) (i : Nat) (s : Nat × Nat), l[i]? = some s → (l.flatMap rgC)[i * 2]? = some (.int .u64 (s.1 : Int)) ∧ (l.flatMap rgC)[i * 2 + 1]? = some (.int .u64 (s.2 : Int))
 | [], i, s, h => by simp at h
 | x :: l, 0, s, h => by simp at h; subst h; exact ⟨rfl, rfl⟩
 | x :: l, i + 1, s, h => by
  have := rgC_at l i s (by simpa using h)
  rw [List.flatMap_cons, show (i + 1) * 2 = i * 2 + 2 by omega]
  exact this
theorem rg_val {w : World} {v : Value} {l : List (Nat × Nat)} (h : RgV w v l) : ∃ a cap, v = .slice a l.length cap ∧ l.length ≤ cap ∧ cap ≤ maxLen ∧ (a = none → cap = 0) := Sl.val h
theorem rg_addr {w : World} {v : Value} {l : List (Nat × Nat)} (h : RgV w v l) (hx : l ≠ []) :
  ∃ b off cap, v = .slice (some ⟨b, off, none⟩) l.length cap ∧ l.length ≤ cap ∧ cap ≤ maxLen ∧ ∀ i s, l[i]? = some s → w.cell? ⟨b, off + i * 2, none⟩ = some (.int .u64 (s.1 : Int)) ∧ w.cell? ⟨b, off + i * 2 + 1, none⟩ = some (.int .u64 (s.2 : Int)) := by
 obtain ⟨b, off, cap, h1, h2, h3, h4⟩ := Sl.addr h (by
  cases l with
  | nil => exact absurd rfl hx
  | cons x l => simp [rgC])
 refine ⟨b, off, cap, h1, h2, h3, fun i s hs => ?_⟩
 obtain ⟨e1, e2⟩ := rgC_at l i s hs
 exact ⟨h4 _ _ e1, by rw [Nat.add_assoc]; exact h4 _ _ e2⟩
theorem RgV.kept {w w' : World} {v : Value} {l : List (Nat × Nat)} (h : RgV w v l) (hM : Mod (fun _ => False) w w') : RgV w' v l := Sl.kept h hM (fun _ _ h => h)
theorem RgV.nil (w : World) : RgV w (.slice none 0 0) [] := Sl.nil _ _
structure FrV (w : World) (f : Fr) (vd vr : Value) : Prop where
 d : Byts w vd f.d
 r : RgV w vr f.rs
 t : f.t.length = 16
 dl : (f.d.length : Int) ≤ 140737488355328
 rl : (f.rs.length : Int) ≤ 140737488355328
theorem FrV.kept {w w' : World} {f : Fr} {vd vr : Value} (h : FrV w f vd vr) (hM : Mod (fun _ => False) w w') : FrV w' f vd vr := ⟨byts_kept h.d hM, h.r.kept hM, h.t, h.dl, h.rl⟩
theorem frC_size (f : Fr) (vd vr : Value) (h : f.t.length = 16) : (frC f vd vr).size = 24 := by simp [frC, frL, h]
theorem frC_one {w : World} {f : Fr} {vd vr : Value} (h : FrV w f vd vr) : ∀ v ∈ (frC f vd vr).toList, v.oneCell' = true := by
 obtain ⟨da, dc, rfl, _⟩ := byts_val h.d
 obtain ⟨ra, rc, rfl, _⟩ := rg_val h.r
 intro v hv
 simp only [frC, frL, List.mem_append, List.mem_cons, List.not_mem_nil, or_false] at hv
 rcases hv with (rfl | rfl | rfl | rfl | rfl | rfl | rfl | rfl) | hv <;> try rfl
 exact bv_one _ _ hv
theorem frC_tok (f : Fr) (vd vr : Value) (j : Nat) (x : UInt8) (h : f.t[j]? = some x) : (frC f vd vr)[8 + j]? = some (bv x) := by
 simp only [frC, frL, List.getElem?_toArray]
 rw [List.getElem?_append_right (by simp)]
 simp [h]
theorem sizeFr (f : Fr) (vd vr : Value) (h : f.t.length = 16) : (Tryz.prog.info? 91).map (·.size) = some (frC f vd vr).size := by rw [frC_size f vd vr h]; kernel_rfl
theorem sizeTk : (Tryz.prog.info? 61).map (·.size) = some 16 := by kernel_rfl
structure FrB (w : World) (b : Nat) (f : Fr) (vd vr : Value) : Prop where
 blk : Blk w b (frC f vd vr) 91
 len : f.t.length = 16
theorem FrB.new (w : World) (f : Fr) (vd vr : Value) (h : f.t.length = 16) : FrB (w.alloc (.cells (frC f vd vr) 91)) w.heap.size f vd vr := ⟨Blk.new _ _ _, h⟩
theorem FrB.kept {w w' : World} {b : Nat} {f : Fr} {vd vr : Value} (h : FrB w b f vd vr) (hM : Mod (fun _ => False) w w') : FrB w' b f vd vr := ⟨hM.blk h.blk (fun h => h), h.len⟩
theorem FrB.cells {w : World} {b : Nat} {f : Fr} {vd vr : Value} (h : FrB w b f vd vr) : w.cell? ⟨b, 0, none⟩ = some (.int .i64 f.k) ∧ w.cell? ⟨b, 1, none⟩ = some (.int .u64 (f.id : Int)) ∧ w.cell? ⟨b, 2, none⟩ = some (.int .u64 (f.a : Int)) ∧ w.cell? ⟨b, 3, none⟩ = some (.int .u64 (f.b : Int)) ∧ w.cell? ⟨b, 4, none⟩ = some (.int .u64 (f.c : Int)) ∧ w.cell? ⟨b, 5, none⟩ = some (.bool f.fl) ∧ w.cell? ⟨b, 6, none⟩ = some vd ∧ w.cell? ⟨b, 7, none⟩ = some vr :=
 ⟨h.blk.cellAt 0 rfl, h.blk.cellAt 1 rfl, h.blk.cellAt 2 rfl, h.blk.cellAt 3 rfl, h.blk.cellAt 4 rfl, h.blk.cellAt 5 rfl, h.blk.cellAt 6 rfl, h.blk.cellAt 7 rfl⟩
theorem FrB.tok {w : World} {b : Nat} {f : Fr} {vd vr : Value} (h : FrB w b f vd vr) : w.rangeAt b 8 (f.t.map bv) := h.blk.range 8 _ (fun j v hv => by
 rw [List.getElem?_map] at hv
 obtain ⟨x, hx, rfl⟩ := Option.map_eq_some_iff.1 hv
 exact frC_tok f vd vr j x hx)
theorem FrB.loadTok {w : World} {b : Nat} {f : Fr} {vd vr : Value} (h : FrB w b f vd vr) : (Instr.loadAt 61 (.pointer (some ⟨b, 8, none⟩))).run Tryz.prog w = .ok (.agg (f.t.map bv).toArray) w :=
 run_loadAt_mid w b 8 61 (f.t.map bv) _ h.tok Tryz.underlying61 rfl (by rw [sizeTk, List.length_map, h.len])
theorem FrB.byts {w : World} {b : Nat} {f : Fr} {vd vr : Value} (h : FrB w b f vd vr) : Byts w (.slice (some ⟨b, 8, none⟩) 16 16) f.t :=
 ⟨by simp, some ⟨b, 8, none⟩, 16, by rw [h.len], by rw [h.len]; omega, by decide, fun e => by simp at e, fun j u hu => ⟨b, 8, rfl, h.tok j u hu⟩⟩
theorem wpList_load_v {P : Program} {ops : Array Oper} {rest : List Oper} {op : Oper} {a : Act} {w : World} {Q : Exit → Act → World → Prop} (ty : TypeId) (x : Operand) (ho : op.op = .load ty x) (hw : Region.wanted op (yielded ops a.tmps) = true)
  (p v : Value) (hx : a.eval x = p) (hl : (Instr.loadAt ty p).run P w = .ok v w) (k : wpList P ops Q rest (a.put op.dst v) w) : wpList P ops Q (op :: rest) a w := by
 refine BigFrame.wpList_want hw fun K hK => ?_
 unfold Oper.wp execOp
 simp only [ho, hx, Sem.run_bind, hl, Result.andThen_ok, Sem.run_pure]
 exact hK _ _ k
theorem wpList_build_c {P : Program} {ops : Array Oper} {rest : List Oper} {op : Oper} {a : Act} {w : World} {Q : Exit → Act → World → Prop} (hgd : op.guard = none) (t : TypeId) (pl : List (Nat × Operand)) (ho : op.op = .build t pl.toArray)
  (vals : List (Nat × Value)) (hv : pl.map (fun x => (x.1, a.eval x.2)) = vals) (cells : Array Value) (hb : P.built t vals = some cells) (k : wpList P ops Q rest (a.put op.dst (.agg cells)) w) : wpList P ops Q (op :: rest) a w := by
 subst hv
 refine wpList_plain hgd fun K hK => ?_
 have e : (pl.toArray.map fun (i, x) => (i, a.eval x)).toList = pl.map (fun x => (x.1, a.eval x.2)) := by simp
 refine wp_build t pl.toArray ho (by rw [e, hb]; rfl) ?_
 rw [e, hb]
 exact hK _ _ k
theorem list16 {α : Type} (t : List α) (h : t.length = 16) : ∃ a b c d e f g h' i j k l m n o p, t = [a, b, c, d, e, f, g, h', i, j, k, l, m, n, o, p] := by
 match t, h with
 | [a, b, c, d, e, f, g, h', i, j, k, l, m, n, o, p], _ => exact ⟨a, b, c, d, e, f, g, h', i, j, k, l, m, n, o, p, rfl⟩
theorem new2 (w : World) (o : Obj) (cs : Array Value) (t : TypeId) : Blk ((w.alloc o).alloc (.cells cs t)) (w.heap.size + 1) cs t := by
 have h := Blk.new (w.alloc o) cs t
 rw [show (w.alloc o).heap.size = w.heap.size + 1 by simp] at h
 exact h
abbrev frZ : Array Value := #[.int .i64 0, .int .u64 0, .int .u64 0, .int .u64 0, .int .u64 0, .bool false, .slice none 0 0, .slice none 0 0, .int .u8 0, .int .u8 0, .int .u8 0, .int .u8 0, .int .u8 0, .int .u8 0, .int .u8 0, .int .u8 0, .int .u8 0, .int .u8 0, .int .u8 0, .int .u8 0, .int .u8 0, .int .u8 0, .int .u8 0, .int .u8 0]
set_option maxRecDepth 10000 in
theorem has5 {w : World} {f : Fr} {vd vr : Value} (hv : FrV w f vd vr) : Calls Tryz.prog 145 #[frV f vd vr] w fun e w' => e = .returned (frV ⟨0, 0, f.a, 0, 0, false, [], [], zeros16⟩ (.slice none 0 0) (.slice none 0 0)) ∧ Mod (fun _ => False) w w' := by
 have HB := FrB.new w f vd vr hv.t
 have e0 : (frC f vd vr)[0]? = some (.int .i64 f.k) := rfl
 have e1 : (frC f vd vr)[1]? = some (.int .u64 (f.id : Int)) := rfl
 have e2 : (frC f vd vr)[2]? = some (.int .u64 (f.a : Int)) := rfl
 have e3 : (frC f vd vr)[3]? = some (.int .u64 (f.b : Int)) := rfl
 have e4 : (frC f vd vr)[4]? = some (.int .u64 (f.c : Int)) := rfl
 have e5 : (frC f vd vr)[5]? = some (.bool f.fl) := rfl
 have e6 : (frC f vd vr)[6]? = some vd := rfl
 have e7 : (frC f vd vr)[7]? = some vr := rfl
 have HG : Hid (FrV w ⟨0, 0, f.a, 0, 0, false, [], [], zeros16⟩ (.slice none 0 0) (.slice none 0 0)) := ⟨Sl.nil _ _, Sl.nil _ _, rfl, by first | exact hv.dl | simp, by first | exact hv.rl | simp⟩
 obtain ⟨da, dc, hvd, _⟩ := byts_val hv.d
 obtain ⟨ra, rc, hvr, _⟩ := rg_val hv.r
 have hbu : Tryz.prog.built 91 [(2, .int .u64 (f.a : Int))] = some (frC ⟨0, 0, f.a, 0, 0, false, [], [], zeros16⟩ (.slice none 0 0) (.slice none 0 0)) := by
  kernel_rfl
 have HBU := Lib.hid hbu
 have HONE := Lib.hid (frC_one HG.out)
 have HSZ := Lib.hid (sizeFr ⟨0, 0, f.a, 0, 0, false, [], [], zeros16⟩ (.slice none 0 0) (.slice none 0 0) HG.out.t)
 have HSS : Hid (frZ.size = (frC ⟨0, 0, f.a, 0, 0, false, [], [], zeros16⟩ (.slice none 0 0) (.slice none 0 0)).size) := (frC_size ⟨0, 0, f.a, 0, 0, false, [], [], zeros16⟩ (.slice none 0 0) (.slice none 0 0) HG.out.t).symm
 unfold frV
 clear HB hbu HG hv hvd hvr
 generalize frC ⟨0, 0, f.a, 0, 0, false, [], [], zeros16⟩ (.slice none 0 0) (.slice none 0 0) = G at *
 generalize frC f vd vr = C at *
 go_enter Tryz.func145, Tryz.ntmps145
 go_wp2_with (first
  | ((with_reducible refine wpList_build_c ?_ 91 [(2, .tmp 4)] ?_ [(2, .int .u64 (f.a : Int))] ?_ G HBU.out ?_); (iterate 3 exact rfl))
  | ((with_reducible refine wpList_store_blk ?_ 91 (.tmp 2) (.tmp 5) ?_ (w.heap.size + 1) ?_ frZ G ?_ 91 (new2 _ _ _ _) HSZ.out HSS.out HONE.out ?_); (iterate 4 exact rfl); intro w1 hB hM)
  | fail)
 have hl := blk_loadVar (P := Tryz.prog) hB Tryz.underlying91 rfl HSZ.out
 refine bodyPost_ret (v := .agg G) ?_ rfl ⟨rfl, (((Mod.refl (fun _ => False) w).alloc _).alloc _).trans' hM (fun i hi e => by omega)⟩
 exact results_cell Tryz.results145 _ rfl hl
set_option maxRecDepth 10000 in
theorem has6 {w : World} {f : Fr} {vd vr : Value} (hv : FrV w f vd vr) : Calls Tryz.prog 146 #[frV f vd vr] w fun e w' => e = .returned (frV ⟨0, f.id, f.a, 0, 0, false, [], [], zeros16⟩ (.slice none 0 0) (.slice none 0 0)) ∧ Mod (fun _ => False) w w' := by
 have HB := FrB.new w f vd vr hv.t
 have e0 : (frC f vd vr)[0]? = some (.int .i64 f.k) := rfl
 have e1 : (frC f vd vr)[1]? = some (.int .u64 (f.id : Int)) := rfl
 have e2 : (frC f vd vr)[2]? = some (.int .u64 (f.a : Int)) := rfl
 have e3 : (frC f vd vr)[3]? = some (.int .u64 (f.b : Int)) := rfl
 have e4 : (frC f vd vr)[4]? = some (.int .u64 (f.c : Int)) := rfl
 have e5 : (frC f vd vr)[5]? = some (.bool f.fl) := rfl
 have e6 : (frC f vd vr)[6]? = some vd := rfl
 have e7 : (frC f vd vr)[7]? = some vr := rfl
 have HG : Hid (FrV w ⟨0, f.id, f.a, 0, 0, false, [], [], zeros16⟩ (.slice none 0 0) (.slice none 0 0)) := ⟨Sl.nil _ _, Sl.nil _ _, rfl, by first | exact hv.dl | simp, by first | exact hv.rl | simp⟩
 obtain ⟨da, dc, hvd, _⟩ := byts_val hv.d
 obtain ⟨ra, rc, hvr, _⟩ := rg_val hv.r
 have hbu : Tryz.prog.built 91 [(1, .int .u64 (f.id : Int)), (2, .int .u64 (f.a : Int))] = some (frC ⟨0, f.id, f.a, 0, 0, false, [], [], zeros16⟩ (.slice none 0 0) (.slice none 0 0)) := by
  kernel_rfl
 have HBU := Lib.hid hbu
 have HONE := Lib.hid (frC_one HG.out)
 have HSZ := Lib.hid (sizeFr ⟨0, f.id, f.a, 0, 0, false, [], [], zeros16⟩ (.slice none 0 0) (.slice none 0 0) HG.out.t)
 have HSS : Hid (frZ.size = (frC ⟨0, f.id, f.a, 0, 0, false, [], [], zeros16⟩ (.slice none 0 0) (.slice none 0 0)).size) := (frC_size ⟨0, f.id, f.a, 0, 0, false, [], [], zeros16⟩ (.slice none 0 0) (.slice none 0 0) HG.out.t).symm
 unfold frV
 clear HB hbu HG hv hvd hvr
 generalize frC ⟨0, f.id, f.a, 0, 0, false, [], [], zeros16⟩ (.slice none 0 0) (.slice none 0 0) = G at *
 generalize frC f vd vr = C at *
 go_enter Tryz.func146, Tryz.ntmps146
 go_wp2_with (first
  | ((with_reducible refine wpList_build_c ?_ 91 [(1, .tmp 4), (2, .tmp 6)] ?_ [(1, .int .u64 (f.id : Int)), (2, .int .u64 (f.a : Int))] ?_ G HBU.out ?_); (iterate 3 exact rfl))
  | ((with_reducible refine wpList_store_blk ?_ 91 (.tmp 2) (.tmp 7) ?_ (w.heap.size + 1) ?_ frZ G ?_ 91 (new2 _ _ _ _) HSZ.out HSS.out HONE.out ?_); (iterate 4 exact rfl); intro w1 hB hM)
  | fail)
 have hl := blk_loadVar (P := Tryz.prog) hB Tryz.underlying91 rfl HSZ.out
 refine bodyPost_ret (v := .agg G) ?_ rfl ⟨rfl, (((Mod.refl (fun _ => False) w).alloc _).alloc _).trans' hM (fun i hi e => by omega)⟩
 exact results_cell Tryz.results146 _ rfl hl
set_option maxRecDepth 10000 in
theorem has19 {w : World} {f : Fr} {vd vr : Value} (hv : FrV w f vd vr) : Calls Tryz.prog 163 #[frV f vd vr] w fun e w' => e = .returned (frV ⟨0, f.id, f.a, 0, f.c, false, [], [], zeros16⟩ (.slice none 0 0) (.slice none 0 0)) ∧ Mod (fun _ => False) w w' := by
 have HB := FrB.new w f vd vr hv.t
 have e0 : (frC f vd vr)[0]? = some (.int .i64 f.k) := rfl
 have e1 : (frC f vd vr)[1]? = some (.int .u64 (f.id : Int)) := rfl
 have e2 : (frC f vd vr)[2]? = some (.int .u64 (f.a : Int)) := rfl
 have e3 : (frC f vd vr)[3]? = some (.int .u64 (f.b : Int)) := rfl
 have e4 : (frC f vd vr)[4]? = some (.int .u64 (f.c : Int)) := rfl
 have e5 : (frC f vd vr)[5]? = some (.bool f.fl) := rfl
 have e6 : (frC f vd vr)[6]? = some vd := rfl
 have e7 : (frC f vd vr)[7]? = some vr := rfl
 have HG : Hid (FrV w ⟨0, f.id, f.a, 0, f.c, false, [], [], zeros16⟩ (.slice none 0 0) (.slice none 0 0)) := ⟨Sl.nil _ _, Sl.nil _ _, rfl, by first | exact hv.dl | simp, by first | exact hv.rl | simp⟩
 obtain ⟨da, dc, hvd, _⟩ := byts_val hv.d
 obtain ⟨ra, rc, hvr, _⟩ := rg_val hv.r
 have hbu : Tryz.prog.built 91 [(1, .int .u64 (f.id : Int)), (4, .int .u64 (f.c : Int)), (2, .int .u64 (f.a : Int))] = some (frC ⟨0, f.id, f.a, 0, f.c, false, [], [], zeros16⟩ (.slice none 0 0) (.slice none 0 0)) := by
  kernel_rfl
 have HBU := Lib.hid hbu
 have HONE := Lib.hid (frC_one HG.out)
 have HSZ := Lib.hid (sizeFr ⟨0, f.id, f.a, 0, f.c, false, [], [], zeros16⟩ (.slice none 0 0) (.slice none 0 0) HG.out.t)
 have HSS : Hid (frZ.size = (frC ⟨0, f.id, f.a, 0, f.c, false, [], [], zeros16⟩ (.slice none 0 0) (.slice none 0 0)).size) := (frC_size ⟨0, f.id, f.a, 0, f.c, false, [], [], zeros16⟩ (.slice none 0 0) (.slice none 0 0) HG.out.t).symm
 unfold frV
 clear HB hbu HG hv hvd hvr
 generalize frC ⟨0, f.id, f.a, 0, f.c, false, [], [], zeros16⟩ (.slice none 0 0) (.slice none 0 0) = G at *
 generalize frC f vd vr = C at *
 go_enter Tryz.func163, Tryz.ntmps163
 go_wp2_with (first
  | ((with_reducible refine wpList_build_c ?_ 91 [(1, .tmp 4), (4, .tmp 6), (2, .tmp 8)] ?_ [(1, .int .u64 (f.id : Int)), (4, .int .u64 (f.c : Int)), (2, .int .u64 (f.a : Int))] ?_ G HBU.out ?_); (iterate 3 exact rfl))
  | ((with_reducible refine wpList_store_blk ?_ 91 (.tmp 2) (.tmp 9) ?_ (w.heap.size + 1) ?_ frZ G ?_ 91 (new2 _ _ _ _) HSZ.out HSS.out HONE.out ?_); (iterate 4 exact rfl); intro w1 hB hM)
  | fail)
 have hl := blk_loadVar (P := Tryz.prog) hB Tryz.underlying91 rfl HSZ.out
 refine bodyPost_ret (v := .agg G) ?_ rfl ⟨rfl, (((Mod.refl (fun _ => False) w).alloc _).alloc _).trans' hM (fun i hi e => by omega)⟩
 exact results_cell Tryz.results163 _ rfl hl
set_option maxRecDepth 10000 in
theorem has31 {w : World} {f : Fr} {vd vr : Value} (hv : FrV w f vd vr) : Calls Tryz.prog 177 #[frV f vd vr] w fun e w' => e = .returned (frV ⟨0, f.id, f.a, 0, 0, f.fl, f.d, [], zeros16⟩ vd (.slice none 0 0)) ∧ Mod (fun _ => False) w w' := by
 have HB := FrB.new w f vd vr hv.t
 have e0 : (frC f vd vr)[0]? = some (.int .i64 f.k) := rfl
 have e1 : (frC f vd vr)[1]? = some (.int .u64 (f.id : Int)) := rfl
 have e2 : (frC f vd vr)[2]? = some (.int .u64 (f.a : Int)) := rfl
 have e3 : (frC f vd vr)[3]? = some (.int .u64 (f.b : Int)) := rfl
 have e4 : (frC f vd vr)[4]? = some (.int .u64 (f.c : Int)) := rfl
 have e5 : (frC f vd vr)[5]? = some (.bool f.fl) := rfl
 have e6 : (frC f vd vr)[6]? = some vd := rfl
 have e7 : (frC f vd vr)[7]? = some vr := rfl
 have HG : Hid (FrV w ⟨0, f.id, f.a, 0, 0, f.fl, f.d, [], zeros16⟩ vd (.slice none 0 0)) := ⟨hv.d, Sl.nil _ _, rfl, by first | exact hv.dl | simp, by first | exact hv.rl | simp⟩
 obtain ⟨da, dc, hvd, _⟩ := byts_val hv.d
 obtain ⟨ra, rc, hvr, _⟩ := rg_val hv.r
 have hbu : Tryz.prog.built 91 [(1, .int .u64 (f.id : Int)), (2, .int .u64 (f.a : Int)), (5, .bool f.fl), (6, vd)] = some (frC ⟨0, f.id, f.a, 0, 0, f.fl, f.d, [], zeros16⟩ vd (.slice none 0 0)) := by
  rw [hvd]; kernel_rfl
 have HBU := Lib.hid hbu
 have HONE := Lib.hid (frC_one HG.out)
 have HSZ := Lib.hid (sizeFr ⟨0, f.id, f.a, 0, 0, f.fl, f.d, [], zeros16⟩ vd (.slice none 0 0) HG.out.t)
 have HSS : Hid (frZ.size = (frC ⟨0, f.id, f.a, 0, 0, f.fl, f.d, [], zeros16⟩ vd (.slice none 0 0)).size) := (frC_size ⟨0, f.id, f.a, 0, 0, f.fl, f.d, [], zeros16⟩ vd (.slice none 0 0) HG.out.t).symm
 unfold frV
 clear HB hbu HG hv hvd hvr
 generalize frC ⟨0, f.id, f.a, 0, 0, f.fl, f.d, [], zeros16⟩ vd (.slice none 0 0) = G at *
 generalize frC f vd vr = C at *
 go_enter Tryz.func177, Tryz.ntmps177
 go_wp2_with (first
  | ((with_reducible refine wpList_build_c ?_ 91 [(1, .tmp 4), (2, .tmp 6), (5, .tmp 8), (6, .tmp 10)] ?_ [(1, .int .u64 (f.id : Int)), (2, .int .u64 (f.a : Int)), (5, .bool f.fl), (6, vd)] ?_ G HBU.out ?_); (iterate 3 exact rfl))
  | ((with_reducible refine wpList_store_blk ?_ 91 (.tmp 2) (.tmp 11) ?_ (w.heap.size + 1) ?_ frZ G ?_ 91 (new2 _ _ _ _) HSZ.out HSS.out HONE.out ?_); (iterate 4 exact rfl); intro w1 hB hM)
  | fail)
 have hl := blk_loadVar (P := Tryz.prog) hB Tryz.underlying91 rfl HSZ.out
 refine bodyPost_ret (v := .agg G) ?_ rfl ⟨rfl, (((Mod.refl (fun _ => False) w).alloc _).alloc _).trans' hM (fun i hi e => by omega)⟩
 exact results_cell Tryz.results177 _ rfl hl
theorem ok_fine {w : World} {f : Fr} {vd vr : Value} : Calls Tryz.prog 158 #[frV f vd vr] w fun e w' => e = .returned (.bool true) ∧ Mod (fun _ => False) w w' := by
 unfold frV
 generalize frC f vd vr = C at *
 go_enter Tryz.func158, Tryz.ntmps158
 go_wp2
 go_ret
 exact ⟨rfl, (Mod.refl _ _).alloc _⟩
set_option maxRecDepth 10000 in
theorem ok_long {w : World} {f : Fr} {vd vr : Value} (hv : FrV w f vd vr) : Calls Tryz.prog 174 #[frV f vd vr] w fun e w' => e = .returned (.bool (decide (f.d.length ≤ 1200))) ∧ Mod (fun _ => False) w w' := by
 have hdl := hv.dl
 obtain ⟨da, dc, rfl, _⟩ := byts_val hv.d
 have e6 : (frC f (.slice da f.d.length dc) vr)[6]? = some (.slice da f.d.length dc) := rfl
 unfold frV
 clear hv
 generalize frC f (.slice da f.d.length dc) vr = C at *
 generalize f.d.length = n at *
 go_enter Tryz.func174, Tryz.ntmps174
 go_wp2
 all_goals go_ret
 all_goals refine ⟨ret_bool ?_, (Mod.refl _ _).alloc _⟩
 all_goals (rw [Bool.eq_iff_iff]; simp_all <;> omega)
theorem loadWhole (w : World) (f : Fr) (vd vr : Value) (h : f.t.length = 16) : ∀ X, X = w.alloc (.cells (frC f vd vr) 91) → (Instr.loadAt 91 (.pointer (some ⟨w.heap.size, 0, none⟩))).run Tryz.prog X = .ok (frV f vd vr) X := by
 rintro X rfl
 exact run_loadAt_mid (w.alloc (.cells (frC f vd vr) 91)) w.heap.size 0 91 (frC f vd vr).toList _ (Blk.new w (frC f vd vr) 91).whole Tryz.underlying91 rfl (sizeFr f vd vr h)
set_option maxHeartbeats 1000000 in
set_option maxRecDepth 10000 in
theorem ok_ends {w : World} {f : Fr} {vd vr : Value} (hv : FrV w f vd vr) (ha : f.a ≤ topN) : Calls Tryz.prog 170 #[frV f vd vr] w fun e w' => e = .returned (.bool (decide (f.d.length ≤ 1200) && decide (f.a + f.d.length ≤ topN))) ∧ Mod (fun _ => False) w w' := by
 have hdl := hv.dl
 have hM := (Mod.refl (fun _ => False) w).alloc (.cells (frC f vd vr) 91)
 have HL := Lib.hid (ok_long (hv.kept hM))
 have HW := Lib.hid (loadWhole w f vd vr hv.t)
 have HMM := Lib.hid hM
 obtain ⟨da, dc, rfl, _⟩ := byts_val hv.d
 have e2 : (frC f (.slice da f.d.length dc) vr)[2]? = some (.int .u64 (f.a : Int)) := rfl
 have e6 : (frC f (.slice da f.d.length dc) vr)[6]? = some (.slice da f.d.length dc) := rfl
 have hai : (f.a : Int) ≤ 4611686018427387903 := by unfold topN at ha; omega
 unfold frV at *
 clear hv hM ha
 generalize frC f (.slice da f.d.length dc) vr = C at *
 generalize f.d.length = n at *
 generalize f.a = m at *
 by_cases hn : (n : Int) ≤ 1200
 ·have hd : decide (n ≤ 1200) = true := by simpa using (by omega : n ≤ 1200)
  rw [hd] at HL ⊢
  have hw1 : IntKind.u64.wrap (n : Int) = n := IntWalk.u64_in _ (by omega)
  clear hd
  go_enter Tryz.func170, Tryz.ntmps170
  go_wp2_with (first
   | ((with_reducible refine wpList_load_v 91 (.tmp 1) ?_ ?_ (.pointer (some ⟨w.heap.size, 0, none⟩)) (.agg C) ?_ (HW.out _ rfl) ?_); (iterate 3 exact rfl))
   | (refine (HL.out).mono ?_; rintro e w1 ⟨rfl, hM1⟩; have g2 := hM1.cellAt (show (w.alloc (.cells C 91)).cell? ⟨w.heap.size, 2, none⟩ = _ from (by simpa using e2)) (fun h => h); have g6 := hM1.cellAt (show (w.alloc (.cells C 91)).cell? ⟨w.heap.size, 6, none⟩ = _ from (by simpa using e6)) (fun h => h); have HM1 := Lib.hid hM1; clear hM1)
   | fail)
  all_goals go_ret
  all_goals refine ⟨ret_bool ?_, HMM.out.trans HM1.out⟩
  all_goals (unfold topN; rw [Bool.eq_iff_iff]; simp_all <;> omega)
 ·have hd : decide (n ≤ 1200) = false := by simpa using (by omega : 1200 < n)
  rw [hd] at HL ⊢
  clear hd
  go_enter Tryz.func170, Tryz.ntmps170
  go_wp2_with (first
   | ((with_reducible refine wpList_load_v 91 (.tmp 1) ?_ ?_ (.pointer (some ⟨w.heap.size, 0, none⟩)) (.agg C) ?_ (HW.out _ rfl) ?_); (iterate 3 exact rfl))
   | (refine (HL.out).mono ?_; rintro e w1 ⟨rfl, hM1⟩)
   | fail)
  all_goals go_ret
  all_goals exact ⟨rfl, HMM.out.trans hM1⟩
end Go.Proofs.YtahgidkpjmecdaaGreatDoor
