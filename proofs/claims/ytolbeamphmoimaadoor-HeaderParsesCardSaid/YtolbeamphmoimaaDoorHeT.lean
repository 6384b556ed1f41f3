/- The document's Peek. -/
import Derived.Test.YtolbeamphmoimaaDoorHeK
import Derived.Test.YtolbeamphmoimaaDoorAppB
import Derived.Test.YtolbeamphmoimaaDoorHdX
import Derived.Deep.RegionLaw
namespace Go.Proofs.YtolbeamphmoimaaDoor
open Go.RowKit

def PeekOut (w : World) (R : List UInt8 × Bool × Bool) (e : Ending) (w' : World) : Prop :=
  ∃ v, e = .returned (.tuple #[v, .bool R.2.1, .bool R.2.2]) ∧ Byts w' v R.1 ∧ Mod (fun _ => False) w w'
theorem peekOut_no {w : World} : PeekOut w ([], false, false) (.returned (.tuple #[.slice none 0 0, .bool false, .bool false])) w := ⟨_, rfl, Sl.nil _ _, Mod.refl _ _⟩
theorem pk_nil : peekL [] = ([], false, false) := rfl
theorem pk_form {c : UInt8} {t : List UInt8} (h : c.toNat / 64 % 2 = 0) : peekL (c :: t) = ([], false, false) := by
  unfold peekL
  simp only [byte_cons]
  rw [if_pos (.inr (.inl h))]
theorem pk_s {c : UInt8} {t : List UInt8} (h : ¬ c.toNat / 64 % 2 = 0) (h1 : ¬ 128 ≤ c.toNat) : peekL (c :: t) = if t.length < 8 then ([], false, false) else (t.take 8, false, true) := by
  unfold peekL
  simp only [byte_cons, if_neg h1]
  by_cases h8 : t.length < 8
  · simp [RS.bytes, h8]
  · simp [RS.bytes, h8, h, decide_eq_false h1]
theorem pk_l {c : UInt8} {a1 a2 a3 a4 n : UInt8} {u : List UInt8} (h : ¬ c.toNat / 64 % 2 = 0) (h1 : 128 ≤ c.toNat) : peekL (c :: a1 :: a2 :: a3 :: a4 :: n :: u) = if 20 < n.toNat ∨ u.length < n.toNat then ([], false, false) else (u.take n.toNat, true, true) := by
  unfold peekL
  have b4 : RS.bytes ⟨a1 :: a2 :: a3 :: a4 :: n :: u, 0⟩ 4 = ([a1, a2, a3, a4], ⟨n :: u, 0⟩) := bytes_app [a1, a2, a3, a4] (n :: u) 4 rfl
  simp only [byte_cons, if_pos h1, b4]
  by_cases h8 : u.length < n.toNat
  · simp [RS.bytes, h8]
  · by_cases h20 : 20 < n.toNat
    · simp [RS.bytes, h8, h20]
    · simp [RS.bytes, h8, h, h20, decide_eq_true h1]
theorem pk_c {c : UInt8} {t : List UInt8} (h1 : 128 ≤ c.toNat) (ht : t.length < 5) : peekL (c :: t) = ([], false, false) := by
  unfold peekL
  simp only [byte_cons, if_pos h1]
  match t, ht with
  | [], _ => simp [RS.bytes, RS.byte]
  | [_], _ => simp [RS.bytes, RS.byte]
  | [_, _], _ => simp [RS.bytes, RS.byte]
  | [_, _, _], _ => simp [RS.bytes, RS.byte]
  | [_, _, _, _], _ => simp [RS.bytes, RS.byte]

theorem rpeek_nil {w : World} {v : Value} (h : Byts w v []) : Calls Tryd.prog 22 #[v] w (PeekOut w ([], false, false)) := by
  obtain ⟨a0, cp0, rfl, _⟩ := byts_val h
  simp only [List.length_nil]
  clear h
  go_enter Tryd.func22, Tryd.ntmps22
  go_wp2
  go_ret3
  exact peekOut_no
theorem rpeek_form {w : World} {b off n cap : Nat} {c : UInt8} (hc0 : w.cell? ⟨b, off, none⟩ = some (bv c)) (hn : (1 : Int) ≤ n) (h64 : c.toNat / 64 % 2 = 0) : Calls Tryd.prog 22 #[.slice (some ⟨b, off, none⟩) n cap] w (PeekOut w ([], false, false)) := by
  unfold bv at hc0
  have t64 : (c.toNat : Int) / 64 % 2 = 0 := by omega
  clear h64
  go_enter Tryd.func22, Tryd.ntmps22
  go_wp2
  go_ret3
  exact peekOut_no
theorem rpeek_cut {w : World} {b off n cap : Nat} {c : UInt8} (hc0 : w.cell? ⟨b, off, none⟩ = some (bv c)) (hn : (1 : Int) ≤ n) (h64 : ¬ c.toNat / 64 % 2 = 0) (h1 : 128 ≤ c.toNat) (h6 : (n : Int) < 6) : Calls Tryd.prog 22 #[.slice (some ⟨b, off, none⟩) n cap] w (PeekOut w ([], false, false)) := by
  unfold bv at hc0
  have t64 : (c.toNat : Int) / 64 % 2 = 1 := by omega
  have h1i : (128 : Int) ≤ c.toNat := by omega
  clear h64 h1
  go_enter Tryd.func22, Tryd.ntmps22
  go_wp2
  go_ret3
  exact peekOut_no
theorem rpeek_far {w : World} {b off n cap : Nat} {c x : UInt8} (hc0 : w.cell? ⟨b, off, none⟩ = some (bv c)) (hc5 : w.cell? ⟨b, off + 5, none⟩ = some (bv x)) (h64 : ¬ c.toNat / 64 % 2 = 0) (h1 : 128 ≤ c.toNat) (h6 : (6 : Int) ≤ n) (hx : 20 < x.toNat) : Calls Tryd.prog 22 #[.slice (some ⟨b, off, none⟩) n cap] w (PeekOut w ([], false, false)) := by
  unfold bv at hc0 hc5
  have t64 : (c.toNat : Int) / 64 % 2 = 1 := by omega
  have h1i : (128 : Int) ≤ c.toNat := by omega
  have hxi : (20 : Int) < x.toNat := by omega
  clear h64 h1 hx
  go_enter Tryd.func22, Tryd.ntmps22
  go_wp2
  go_ret3
  exact peekOut_no
set_option maxRecDepth 10000 in
theorem rpeek_short_s {w : World} {b off n cap : Nat} {c : UInt8} (hc0 : w.cell? ⟨b, off, none⟩ = some (bv c)) (hn : (1 : Int) ≤ n) (h64 : ¬ c.toNat / 64 % 2 = 0) (h1 : ¬ 128 ≤ c.toNat) (h9 : (n : Int) < 9) : Calls Tryd.prog 22 #[.slice (some ⟨b, off, none⟩) n cap] w (PeekOut w ([], false, false)) := by
  unfold bv at hc0
  have t64 : (c.toNat : Int) / 64 % 2 = 1 := by omega
  have h1i : (c.toNat : Int) < 128 := by omega
  clear h64 h1
  go_enter Tryd.func22, Tryd.ntmps22
  go_wp2
  go_ret3
  exact peekOut_no
set_option maxRecDepth 10000 in
theorem rpeek_short_l {w : World} {b off n cap : Nat} {c x : UInt8} (hc0 : w.cell? ⟨b, off, none⟩ = some (bv c)) (hc5 : w.cell? ⟨b, off + 5, none⟩ = some (bv x)) (h64 : ¬ c.toNat / 64 % 2 = 0) (h1 : 128 ≤ c.toNat) (h6 : (6 : Int) ≤ n) (hx : ¬ 20 < x.toNat) (hs : (n : Int) < 6 + x.toNat) : Calls Tryd.prog 22 #[.slice (some ⟨b, off, none⟩) n cap] w (PeekOut w ([], false, false)) := by
  unfold bv at hc0 hc5
  have t64 : (c.toNat : Int) / 64 % 2 = 1 := by omega
  have h1i : (128 : Int) ≤ c.toNat := by omega
  have hxi : (x.toNat : Int) ≤ 20 := by omega
  clear h64 h1 hx
  go_enter Tryd.func22, Tryd.ntmps22
  go_wp2
  go_ret3
  exact peekOut_no
set_option maxRecDepth 10000 in
theorem rpeek_s {w : World} {b off n cap : Nat} {c : UInt8} {D : List UInt8} (hc0 : w.cell? ⟨b, off, none⟩ = some (bv c)) (hb : Byts w (.slice (some ⟨b, off + 1, none⟩) 8 (cap - 1)) D) (hD : D.length = 8) (h64 : ¬ c.toNat / 64 % 2 = 0) (h1 : ¬ 128 ≤ c.toNat) (h9 : (9 : Int) ≤ n) (hnc : (n : Int) ≤ cap) : Calls Tryd.prog 22 #[.slice (some ⟨b, off, none⟩) n cap] w (PeekOut w (D, false, true)) := by
  unfold bv at hc0
  have t64 : (c.toNat : Int) / 64 % 2 = 1 := by omega
  have h1i : (c.toNat : Int) < 128 := by omega
  have HB := Lib.hid hb
  have hcap1 : ¬ cap = 1 := by omega
  have hw9 : IntKind.i64.wrap 9 = 9 := rfl
  have h9c : (9 : Int) ≤ cap := by omega
  have hd0 := cell_a w (.cells #[] 5) _ _ hc0
  have hown := Lib.hid (own_lit w [] #[] 0 w.heap.size rfl rfl (by decide) (Nat.le_refl _)).drew
  have HN0 : Hid (([] : List UInt8).length + D.length = 8) := by show _ = _; simp [hD]
  have hM0 : Mod (fun _ => False) w w := Mod.refl _ _
  have hdc : decide ((128 : Int) ≤ (c.toNat : Int)) = false := by simp; omega
  clear h64 h1 hb hD hnc
  go_enter Tryd.func22, Tryd.ntmps22
  go_wp2_with fail
  go_region_law (first
    | (refine step_append_b rfl (.tmp 41) (.tmp 47) (by rfl) (.slice (some ⟨w.heap.size, 0, none⟩) 0 0) [] w.heap.size 8 (by rfl) hown.out _ D (by rfl) (byts_kept HB.out (hM0.alloc _).drew) D rfl HN0.out (by decide) (hM0.alloc _).drew.size ?_; intro ap1 cp1 W1 hA1; have g0 := hA1.modF (hM0.alloc _).drew (Nat.le_refl _); have g8 := g0.cellAt hc0 (fun h => h))
    | fail)
  all_goals
    go_wp2_with fail
    go_ret3
    refine ⟨.slice ap1 8 cp1, ?_, hA1.byts, g0⟩
    simp [Act.put]
set_option maxRecDepth 10000 in
theorem rpeek_l {w : World} {b off n cap : Nat} {c x : UInt8} {D : List UInt8} (hc0 : w.cell? ⟨b, off, none⟩ = some (bv c)) (hc5 : w.cell? ⟨b, off + 5, none⟩ = some (bv x)) (hcap : 7 ≤ cap) (hb : Byts w (.slice (some ⟨b, off + 6, none⟩) x.toNat (cap - 6)) D) (hD : D.length = x.toNat) (h64 : ¬ c.toNat / 64 % 2 = 0) (h1 : 128 ≤ c.toNat) (hx : ¬ 20 < x.toNat) (h6 : (6 : Int) ≤ n) (h9 : (6 : Int) + x.toNat ≤ n) (hnc : (n : Int) ≤ cap) : Calls Tryd.prog 22 #[.slice (some ⟨b, off, none⟩) n cap] w (PeekOut w (D, true, true)) := by
  unfold bv at hc0 hc5
  have t64 : (c.toNat : Int) / 64 % 2 = 1 := by omega
  have h1i : (128 : Int) ≤ c.toNat := by omega
  have hxi : (x.toNat : Int) ≤ 20 := by omega
  have HB := Lib.hid hb
  have hcap1 : ¬ cap = 6 := by omega
  have hw9 : IntKind.i64.wrap ((6 : Int) + x.toNat) = (6 : Int) + x.toNat := IntWalk.i64_in _ (by omega)
  have h9c : (6 : Int) + x.toNat ≤ cap := by omega
  have hd0 := cell_a w (.cells #[] 5) _ _ hc0
  have hd5 := cell_a w (.cells #[] 5) _ _ hc5
  have hown := Lib.hid (own_lit w [] #[] 0 w.heap.size rfl rfl (by decide) (Nat.le_refl _)).drew
  have HN0 : Hid (([] : List UInt8).length + D.length = x.toNat) := by show _ = _; simp [hD]
  have HNB : Hid ((x.toNat : Int) ≤ 140737488355328) := by show _ ≤ _; omega
  have hM0 : Mod (fun _ => False) w w := Mod.refl _ _
  have hxl := x.toNat_lt
  have hx2 : (x.toNat : Int) < 256 := by omega
  have hy0 : ((6 : Int) + x.toNat).toNat = 6 + x.toNat := by omega
  have hdc : decide ((128 : Int) ≤ (c.toNat : Int)) = true := by simp; omega
  have hlo : (6 : Int) ≤ 6 + x.toNat := by omega
  have hnn : (0 : Int) ≤ 6 + x.toNat := by omega
  clear h64 h1 hb hD hx
  go_enter Tryd.func22, Tryd.ntmps22
  go_wp2_with fail
  go_region_law (first
    | (refine step_append_b rfl (.tmp 41) (.tmp 47) (by rfl) (.slice (some ⟨w.heap.size, 0, none⟩) 0 0) [] w.heap.size x.toNat (by rfl) hown.out _ D (by rfl) (byts_kept HB.out (hM0.alloc _).drew) D rfl HN0.out HNB.out (hM0.alloc _).drew.size ?_; intro ap1 cp1 W1 hA1; have g0 := hA1.modF (hM0.alloc _).drew (Nat.le_refl _); have g8 := g0.cellAt hc0 (fun h => h))
    | fail)
  all_goals
    go_wp2_with fail
    go_ret3
    refine ⟨.slice ap1 x.toNat cp1, ?_, hA1.byts, g0⟩
    simp [Act.put]
set_option maxRecDepth 10000 in
theorem rpeek_e {w : World} {b off : Nat} {c : UInt8} (hc0 : w.cell? ⟨b, off, none⟩ = some (bv c)) (hc5 : w.cell? ⟨b, off + 5, none⟩ = some (.int .u8 0)) (h64 : ¬ c.toNat / 64 % 2 = 0) (h1 : 128 ≤ c.toNat) : Calls Tryd.prog 22 #[.slice (some ⟨b, off, none⟩) 6 6] w (PeekOut w ([], true, true)) := by
  unfold bv at hc0
  have t64 : (c.toNat : Int) / 64 % 2 = 1 := by omega
  have h1i : (128 : Int) ≤ c.toNat := by omega
  have hw9 : IntKind.i64.wrap 6 = 6 := rfl
  have HB : Hid (Byts w (.slice (some ⟨b, off, none⟩) 0 0) []) := ⟨rfl, _, 0, rfl, Nat.le_refl _, by decide, fun h => by simp at h, fun j u hu => by simp at hu⟩
  have hd0 := cell_a w (.cells #[] 5) _ _ hc0
  have hown := Lib.hid (own_lit w [] #[] 0 w.heap.size rfl rfl (by decide) (Nat.le_refl _)).drew
  have hM0 : Mod (fun _ => False) w w := Mod.refl _ _
  have hdc : decide ((128 : Int) ≤ (c.toNat : Int)) = true := by simp; omega
  clear h64 h1
  go_enter Tryd.func22, Tryd.ntmps22
  go_wp2_with fail
  go_region_law (first
    | (refine step_append_b rfl (.tmp 41) (.tmp 47) (by rfl) (.slice (some ⟨w.heap.size, 0, none⟩) 0 0) [] w.heap.size 0 (by rfl) hown.out _ [] (by rfl) (byts_kept HB.out (hM0.alloc _).drew) [] rfl (by rfl) (by decide) (hM0.alloc _).drew.size ?_; intro ap1 cp1 W1 hA1; have g0 := hA1.modF (hM0.alloc _).drew (Nat.le_refl _); have g8 := g0.cellAt hc0 (fun h => h))
    | fail)
  all_goals
    go_wp2_with fail
    go_ret3
    refine ⟨.slice ap1 0 cp1, ?_, hA1.byts, g0⟩
    simp [Act.put]
theorem byts_from {w : World} {b off cap k n : Nat} {l D : List UInt8} (h : Byts w (.slice (some ⟨b, off, none⟩) l.length cap) l) (hk : k + n ≤ l.length) (hc : ¬ cap = k) (hD : D = (l.drop k).take n) : Byts w (.slice (some ⟨b, off + k, none⟩) n (cap - k)) D := by
  have e : D.length = n := by rw [hD, List.length_take, List.length_drop]; omega
  unfold Byts
  rw [e, hD]
  have := sl_sub h hk hc
  simpa [Addr.add_lit] using this
theorem rpeek_any {w : World} {v : Value} {l : List UInt8} (h : Byts w v l) : Calls Tryd.prog 22 #[v] w (PeekOut w (peekL l)) := by
  cases l with
  | nil => exact rpeek_nil h
  | cons c t =>
    obtain ⟨b, off, cap, rfl, h1, h2, hc⟩ := byts_addr h (by simp)
    have hc0 : w.cell? ⟨b, off, none⟩ = some (bv c) := hc 0 c rfl
    have hlen : (c :: t).length = t.length + 1 := rfl
    by_cases h64 : c.toNat / 64 % 2 = 0
    · rw [pk_form h64]
      exact rpeek_form hc0 (by omega) h64
    · by_cases h128 : 128 ≤ c.toNat
      · match t, h, hc, h1, hlen with
        | a1 :: a2 :: a3 :: a4 :: x :: u, h, hc, h1, hlen =>
          have hc5 : w.cell? ⟨b, off + 5, none⟩ = some (bv x) := hc 5 x rfl
          rw [pk_l h64 h128]
          have hl6 : (c :: a1 :: a2 :: a3 :: a4 :: x :: u).length = u.length + 6 := rfl
          rw [hl6] at h1 ⊢
          by_cases h20 : 20 < x.toNat
          · rw [if_pos (.inl h20)]
            exact rpeek_far hc0 hc5 h64 h128 (by omega) h20
          · by_cases hu : u.length < x.toNat
            · rw [if_pos (.inr hu)]
              exact rpeek_short_l hc0 hc5 h64 h128 (by omega) h20 (by omega)
            · rw [if_neg (by omega)]
              have hD : (u.take x.toNat).length = x.toNat := by rw [List.length_take]; omega
              by_cases hcap : cap = 6
              · have hx0 : x.toNat = 0 := by omega
                have hul : u.length = 0 := by omega
                have hc5' : w.cell? ⟨b, off + 5, none⟩ = some (.int .u8 0) := by rw [hc5]; unfold bv; rw [hx0]; rfl
                subst hcap
                rw [hx0, hul]
                exact rpeek_e hc0 hc5' h64 h128
              · exact rpeek_l hc0 hc5 (by omega) (byts_from h (k := 6) (by rw [hl6]; omega) hcap rfl) hD h64 h128 h20 (by omega) (by omega) (by omega)
        | [], _, _, _, _ => rw [pk_c h128 (by simp)]; exact rpeek_cut hc0 (by simp) h64 h128 (by simp)
        | [_], _, _, _, _ => rw [pk_c h128 (by simp)]; exact rpeek_cut hc0 (by simp) h64 h128 (by simp)
        | [_, _], _, _, _, _ => rw [pk_c h128 (by simp)]; exact rpeek_cut hc0 (by simp) h64 h128 (by simp)
        | [_, _, _], _, _, _, _ => rw [pk_c h128 (by simp)]; exact rpeek_cut hc0 (by simp) h64 h128 (by simp)
        | [_, _, _, _], _, _, _, _ => rw [pk_c h128 (by simp)]; exact rpeek_cut hc0 (by simp) h64 h128 (by simp)
      · rw [pk_s h64 h128]
        by_cases h8 : t.length < 8
        · rw [if_pos h8]
          exact rpeek_short_s hc0 (by omega) h64 h128 (by omega)
        · rw [if_neg h8]
          exact rpeek_s hc0 (byts_from h (k := 1) (n := 8) (by omega) (by omega) rfl) (by rw [List.length_take]; omega) h64 h128 (by omega) (by omega)
end Go.Proofs.YtolbeamphmoimaaDoor
