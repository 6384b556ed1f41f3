/- The contracts of the program's reader. -/
import Derived.Test.YteegonadodmeeaaDoorVarD
import Derived.ScopeJumps
namespace Go.Proofs.YteegonadodmeeaaDoor
open Go.RowKit

/-- The program's reader in memory. -/
def Rdr (w : World) (rb : Nat) (s : RS) : Prop :=
  (s.e ≠ 0 → s.l = []) ∧ ∃ a cap, Blk w rb #[.slice a s.l.length cap, .int .i64 s.e] 76 ∧ s.l.length ≤ cap ∧ cap ≤ maxLen ∧ (a = none → cap = 0) ∧ s.l.length ≤ 140737488355328 ∧
    ∀ j x, s.l[j]? = some x → ∃ bb off cs, a = some ⟨bb, off, none⟩ ∧ Blk w bb cs 5 ∧ cs[off + j]? = some (bv x)

theorem Rdr.lt {w : World} {rb : Nat} {s : RS} (h : Rdr w rb s) : rb < w.heap.size := by obtain ⟨_, a, cap, hb, _⟩ := h; exact hb.lt
/-- Nothing of another struct's writes turns it. -/
theorem Mod.rdr {S : Nat → Prop} {w w' : World} {rb : Nat} {s : RS} (h : Mod S w w') (hr : Rdr w rb s) (h1 : ¬ S rb) (h2 : ∀ b cs, Blk w b cs 5 → ¬ S b) : Rdr w' rb s := by
  obtain ⟨h0, a, cap, hb, h3, h4, h5, h6, h7⟩ := hr
  refine ⟨h0, a, cap, h.blk hb h1, h3, h4, h5, h6, fun j x hj => ?_⟩
  obtain ⟨bb, off, cs, rfl, hbb, hc⟩ := h7 j x hj
  exact ⟨bb, off, cs, rfl, h.blk hbb (h2 bb cs hbb), hc⟩
theorem Rdr.kept {S : Nat → Prop} {w w' : World} {rb : Nat} {s : RS} (hr : Rdr w rb s) (h : Mod S w w') (hS : ∀ k, k < w.heap.size → ¬ S k) : Rdr w' rb s :=
  h.rdr hr (hS _ hr.lt) (fun _ _ hb => hS _ hb.lt)
theorem Rdr.heap {w w' : World} {rb : Nat} {s : RS} (hr : Rdr w rb s) (h : w'.heap = w.heap) : Rdr w' rb s := by
  obtain ⟨h0, a, cap, hb, h3, h4, h5, h6, h7⟩ := hr
  refine ⟨h0, a, cap, hb.heap h, h3, h4, h5, h6, fun j x hj => ?_⟩
  obtain ⟨bb, off, cs, rfl, hbb, hc⟩ := h7 j x hj
  exact ⟨bb, off, cs, rfl, hbb.heap h, hc⟩
/-- Made of bytes of the call's own. -/
theorem Rdr.made {w : World} {B rb : Nat} {v : Value} {l : List UInt8} (ho : OwnB w B v l) (hl : l.length ≤ 140737488355328) (hb : Blk w rb #[v, .int .i64 0] 76) : Rdr w rb ⟨l, 0⟩ := by
  obtain ⟨h1, h2⟩ := ho
  refine ⟨fun h => absurd rfl h, ?_⟩
  rcases h2 with ⟨rfl, h2⟩ | ⟨g, cap, cur, rfl, _, hg, hn, hm, hs, ht⟩
  · have : l = [] := List.eq_nil_of_length_eq_zero (by omega)
    subst this
    exact ⟨none, 0, hb, Nat.le_refl _, by simp [maxLen], fun _ => rfl, hl, fun j x h => by simp at h⟩
  · refine ⟨_, cap, hb, hn, hm, fun h => by simp at h, hl, fun j x hj => ⟨g, 0, cur, rfl, hg, ?_⟩⟩
    have e : (l.map bv)[j]? = some (bv x) := by simp [hj]
    rw [← ht, List.getElem?_take] at e
    split at e
    · simpa using e
    · simp at e
set_option maxRecDepth 10000 in
theorem read_any {w : World} {v : Value} {l : List UInt8} (h : Byts w v l) (hr : (l.length : Int) ≤ 140737488355328) :
    Calls Tryd.prog 32 #[v] w fun e w' => ∃ rb, e = .returned (.pointer (some ⟨rb, 0, none⟩)) ∧ w.heap.size ≤ rb ∧ Rdr w' rb ⟨l, 0⟩ ∧ Mod (fun _ => False) w w' := by
  have H := Lib.hid h
  have HR := Lib.hid hr
  obtain ⟨a, cap, rfl, _⟩ := byts_val h
  clear h hr
  go_enter Tryd.func32, Tryd.ntmps32
  go_wp2_with (go_at_call 92; refine (clone_any H.out HR.out).mono ?_; rintro e w1 ⟨v', rfl, ho, hM⟩; obtain ⟨a', cap', rfl, _⟩ := byts_val ho.byts)
  go_ret
  refine ⟨w1.heap.size, rfl, hM.size, ?_, hM.alloc _⟩
  refine Rdr.made (B := w.heap.size) ?_ (by have := HR.out; omega) (Blk.new _ _ _)
  exact World.ownsRow.alloc ho _
set_option maxRecDepth 10000 in
theorem bad_any {w : World} {rb : Nat} {s : RS} (h : Rdr w rb s) :
    Calls Tryd.prog 36 #[.pointer (some ⟨rb, 0, none⟩)] w fun e w' => w = w' ∧ e = .returned (.int .i64 s.e) := by
  obtain ⟨_, a, cap, hb, _⟩ := h
  have hc : w.cell? ⟨rb, 1, none⟩ = some (.int .i64 s.e) := hb.cellAt 1 rfl
  clear hb
  go_enter Tryd.func36, Tryd.ntmps36
  go_wp2
  go_ret
  exact ⟨rfl, rfl⟩
set_option maxRecDepth 10000 in
theorem left_any {w : World} {rb : Nat} {s : RS} (h : Rdr w rb s) :
    Calls Tryd.prog 33 #[.pointer (some ⟨rb, 0, none⟩)] w fun e w' => w = w' ∧ e = .returned (.int .i64 (s.l.length : Int)) := by
  obtain ⟨_, a, cap, hb, _⟩ := h
  have hc : w.cell? ⟨rb, 0, none⟩ = some (.slice a s.l.length cap) := hb.cellAt 0 rfl
  clear hb
  go_enter Tryd.func33, Tryd.ntmps33
  go_wp2
  go_ret
  exact ⟨rfl, rfl⟩
set_option maxRecDepth 10000 in
theorem fail_any {w : World} {rb : Nat} {s : RS} (e : Int) (h : Rdr w rb s) :
    Calls Tryd.prog 35 #[.pointer (some ⟨rb, 0, none⟩), .int .i64 e] w fun x w' => x = .returned (.tuple #[]) ∧ Rdr w' rb (s.fail e) ∧ Mod (fun k => k = rb) w w' := by
  have HR := Lib.hid h
  obtain ⟨_, a, cap, hb, _⟩ := h
  have HB := Lib.hid hb
  have hc : w.cell? ⟨rb, 1, none⟩ = some (.int .i64 s.e) := hb.cellAt 1 rfl
  have hc0 : w.cell? ⟨rb, 0, none⟩ = some (.slice a s.l.length cap) := hb.cellAt 0 rfl
  have hf0 := hb.free 0
  have hf1 := hb.free 1
  clear hb
  by_cases h0 : s.e = 0
  · by_cases h1 : e = 0
    · have hs : s.fail e = s := by simp [RS.fail, h1]
      rw [hs]
      have t0 : (s.e == 0) = true := by simp [h0]
      have t1 : (e != 0) = false := by simp [h1]
      clear h0 h1 hs
      go_enter Tryd.func35, Tryd.ntmps35
      go_wp2
      go_end0
      exact ⟨rfl, HR.out, Mod.refl _ _⟩
    · have hs : s.fail e = ⟨[], e⟩ := by simp [RS.fail, h0, h1]
      rw [hs]
      have t0 : (s.e == 0) = true := by simp [h0]
      have t1 : (e != 0) = true := by simp [h1]
      clear h0 h1 hs
      go_enter Tryd.func35, Tryd.ntmps35
      go_wp2
      go_end0
      refine ⟨rfl, ⟨fun _ => rfl, none, 0, (HB.out.set 0 _).set 1 _, Nat.le_refl _, by simp [maxLen], fun _ => rfl, by simp, fun j x h => by simp at h⟩, ((Mod.refl (fun k => k = rb) w).setCell (fun _ => rfl) _).setCell (fun _ => rfl) _⟩
  · have hs : s.fail e = s := by simp [RS.fail, h0]
    rw [hs]
    have t0 : (s.e == 0) = false := by simp [h0]
    clear h0 hs
    go_enter Tryd.func35, Tryd.ntmps35
    go_wp2
    go_end0
    exact ⟨rfl, HR.out, Mod.refl _ _⟩
theorem Blk.mod {w w' : World} {b : Nat} {cs : Array Value} {t : TypeId} (h : Blk w b cs t) (hM : Mod (fun _ => False) w w') : Blk w' b cs t := hM.blk h (fun h => h)
theorem rdr_part {w : World} {rb m n cap : Nat} {a : Option Addr} {s : RS} (_hB : Blk w rb #[.slice a s.l.length cap, .int .i64 s.e] 76)
    (h7 : ∀ j x, s.l[j]? = some x → ∃ bb off cs, a = some ⟨bb, off, none⟩ ∧ Blk w bb cs 5 ∧ cs[off + j]? = some (bv x)) (h5 : a = none → cap = 0) (hm : m = s.l.length) (hn : n ≤ m) (hmc : m ≤ cap) (hc : cap ≤ maxLen) :
    Byts w (.slice a n cap) (s.l.take n) := by
  have e : (s.l.take n).length = n := by simp; omega
  refine ⟨by simp, a, cap, by rw [e], by omega, hc, h5, fun j u hu => ?_⟩
  rw [List.getElem?_map, List.getElem?_take] at hu
  split at hu
  · obtain ⟨x, hx, rfl⟩ := Option.map_eq_some_iff.1 hu
    obtain ⟨bb, off, cs, rfl, hb, hcs⟩ := h7 j x hx
    exact ⟨bb, off, rfl, hb.cellAt _ hcs⟩
  · simp at hu
theorem rdr_rest {w w1 : World} {rb m n cap : Nat} {a a' : Option Addr} {s : RS} (hB : Blk w rb #[.slice a s.l.length cap, .int .i64 s.e] 76) (h0 : s.e = 0) (hM : Mod (fun _ => False) w w1)
    (h7 : ∀ j x, s.l[j]? = some x → ∃ bb off cs, a = some ⟨bb, off, none⟩ ∧ Blk w bb cs 5 ∧ cs[off + j]? = some (bv x)) (h5 : a = none → cap = 0) (hm : m = s.l.length) (hn : n ≤ m) (hmc : m ≤ cap) (hl : m ≤ 140737488355328)
    (ha : ¬ cap = n → a' = a.map (fun x => x.add n)) (hc : cap ≤ maxLen) {c' : Nat} (hc' : c' = cap - n) :
    Rdr (w1.setCell ⟨rb, 0, none⟩ (.slice a' (m - n) c')) rb ⟨s.l.drop n, 0⟩ := by
  have e : (s.l.drop n).length = m - n := by simp; omega
  subst hc'
  refine ⟨fun h => absurd rfl h, a', cap - n, ?_, by show (s.l.drop n).length ≤ _; omega, by omega, ?_, by rw [e]; omega, fun j x hj => ?_⟩
  · have := (hB.mod hM).set 0 (.slice a' (m - n) (cap - n))
    rw [h0] at this
    rw [e]
    exact this
  · intro h
    by_cases hcn : cap = n
    · omega
    · rw [ha hcn] at h
      have := h5 (by simpa using h)
      omega
  · rw [List.getElem?_drop] at hj
    have hlt : n + j < s.l.length := (List.getElem?_eq_some_iff.1 hj).1
    obtain ⟨bb, off, cs, rfl, hbb, hcs⟩ := h7 _ _ hj
    refine ⟨bb, off + n, cs, ?_, (hbb.mod hM).setOther (Blk.ne hbb hB (by decide)) _, by rw [Nat.add_assoc]; exact hcs⟩
    rw [ha (by omega)]
    simp only [Option.map_some, Option.some.injEq]
    unfold Addr.add
    split
    · simp_all
    · rfl
set_option maxRecDepth 10000 in
theorem bytes_any {w : World} {rb : Nat} {s : RS} (n : Nat) (h : Rdr w rb s) :
    Calls Tryd.prog 42 #[.pointer (some ⟨rb, 0, none⟩), .int .u64 (n : Int)] w fun x w' => ∃ v, x = .returned v ∧ OwnB w' w.heap.size v (s.bytes n).1 ∧ Rdr w' rb (s.bytes n).2 ∧ Mod (fun k => k = rb) w w' := by
  have HR := Lib.hid h
  obtain ⟨hz, a, cap, hb, h3, h4, h5, h6, h7⟩ := h
  have HB := Lib.hid hb
  have H7 := Lib.hid h7
  have hc0 : w.cell? ⟨rb, 0, none⟩ = some (.slice a s.l.length cap) := hb.cellAt 0 rfl
  have hf0 := hb.free 0
  unfold maxLen at h4
  have hl : (s.l.length : Int) ≤ 140737488355328 := by omega
  have hcap : (cap : Int) ≤ 9223372036854775807 := by omega
  have hlc : (s.l.length : Int) ≤ cap := by omega
  obtain ⟨m, hm⟩ : ∃ m, m = s.l.length := ⟨_, rfl⟩
  rw [← hm] at hc0 hl hlc
  have HM := Lib.hid hm
  have H5 := Lib.hid h5
  clear hb h7 h6 h4 h3 hm h5
  by_cases h0 : s.e = 0
  · have t0 : (s.e != 0) = false := by simp [h0]
    by_cases hn : (m : Int) < n
    · have hs : s.bytes n = ([], s.fail 2) := by
        have := HM.out
        simp only [RS.bytes, RS.fail, h0]
        simp; omega
      rw [hs]
      clear h0 hz hs
      go_enter Tryd.func42, Tryd.ntmps42
      go_wp2_with (first | (go_at_call 36; refine (bad_any HR.out).mono ?_; rintro e w' ⟨rfl, rfl⟩) | (go_at_call 35; refine (fail_any _ HR.out).mono ?_; rintro e w' ⟨rfl, hr', hM⟩))
      go_ret
      exact ⟨_, rfl, OwnB.nil _ _, hr', hM⟩
    · have hs : s.bytes n = (s.l.take n, ⟨s.l.drop n, 0⟩) := by
        have := HM.out
        simp only [RS.bytes, h0]
        simp; omega
      rw [hs]
      have hnm : (n : Int) ≤ m := by omega
      have H0 := Lib.hid h0
      clear h0 hz hs
      go_enter Tryd.func42, Tryd.ntmps42
      have hby : Hid (Byts w (.slice a n cap) (s.l.take n)) := rdr_part HB.out H7.out H5.out HM.out (by omega) (by omega) (by unfold maxLen; omega)
      have hcr : Hid (((s.l.take n).length : Int) ≤ 140737488355328) := by show _ ≤ _; simp; omega
      go_wp2_with (first | (go_at_call 36; refine (bad_any HR.out).mono ?_; rintro e w' ⟨rfl, rfl⟩) | (go_at_call 92; refine (clone_any hby.out hcr.out).mono ?_; rintro e w1 ⟨v', rfl, ho, hM⟩; have hc1 := hM.cellAt hc0 (fun h => h); have hf1 := (HB.out.mod hM).free 0))
      all_goals go_ret
      all_goals
        refine ⟨v', rfl, ?_, ?_, (show Mod (fun k => k = rb) w w1 from hM.mono (fun _ _ h => h.elim)).setCell (fun _ => rfl) _⟩
        · refine (((Mod.refl (fun k => k = rb) w1).setCell (fun _ => rfl) _).own ho fun g hg hk => ?_)
          subst hk
          have := (ho.lt _ hg).1
          have := HB.out.lt
          omega
        · refine rdr_rest HB.out H0.out hM H7.out H5.out HM.out (by omega) (by omega) (by omega) (fun hc => ?_) (by unfold maxLen; omega) (by first | rfl | omega)
          all_goals first | rfl | exact absurd (by assumption) hc | exact absurd hc (by assumption)
  · have t0 : (s.e != 0) = true := by simp [h0]
    have hs : s.bytes n = ([], s) := by simp [RS.bytes, h0]
    rw [hs]
    clear h0 hz hs
    go_enter Tryd.func42, Tryd.ntmps42
    go_wp2_with (first | (go_at_call 36; refine (bad_any HR.out).mono ?_; rintro e w' ⟨rfl, rfl⟩))
    go_ret
    exact ⟨_, rfl, OwnB.nil _ _, HR.out, Mod.refl _ _⟩
end Go.Proofs.YteegonadodmeeaaDoor
