/- The contracts of the integers' functions that write: sizes, widths, bytes; of the program and of the document's answer. -/
import Derived.Test.YteegonadodmeeaaDoorChecked
import Derived.Test.YteegonadodmeeaaDoorKit
import Derived.Test.YteegonadodmeeaaDoorPlain
import Derived.BigQuiet
import Derived.Deep.QuietTactic
import Derived.WalkLawsBesides
import Derived.WalkSpells
import Derived.Lib.Hide
namespace Go.Proofs.YteegonadodmeeaaDoor
open Go.RowKit

theorem ret_bool {a b : Bool} (h : a = b) : Ending.returned (.bool a) = .returned (.bool b) := by rw [h]
theorem ret_int {k : IntKind} {a b : Int} (h : a = b) : Ending.returned (.int k a) = .returned (.int k b) := by rw [h]

set_option maxRecDepth 10000 in
theorem fits_any (n : Nat) (size : Int) (w : World) :
    Calls Tryd.prog 99 #[.int .u64 (n : Int), .int .i64 size] w fun e w' => w = w' ∧ e = .returned (.bool (fits n size)) := by
  go_enter Tryd.func99, Tryd.ntmps99
  go_wp2
  all_goals go_ret
  all_goals refine ⟨rfl, ret_bool ?_⟩
  all_goals (unfold fits; simp_all; try omega)

/-- The cells of the library's table that are read. -/
def Tabs (w : World) : Prop := w.cell? ⟨1, 0, none⟩ = some (.int .u8 0) ∧ w.cell? ⟨1, 1, none⟩ = some (.int .u8 1) ∧ w.cell? ⟨1, 3, none⟩ = some (.int .u8 2) ∧ w.cell? ⟨1, 7, none⟩ = some (.int .u8 3)

theorem Mod.tabs {S : Nat → Prop} {w w' : World} (h : Mod S w w') (hT : Tabs w) (hS : ¬ S 1) : Tabs w' :=
  ⟨h.cellAt hT.1 hS, h.cellAt hT.2.1 hS, h.cellAt hT.2.2.1 hS, h.cellAt hT.2.2.2 hS⟩
set_option maxRecDepth 10000 in
theorem tz1 (w : World) (h : Tabs w) : Calls Tryd.prog 102 #[.int .u64 1] w fun e w' => w = w' ∧ e = .returned (.int .i64 0) := by
  obtain ⟨h0, h1, h2, h3⟩ := h
  have hx : IntKind.u64.wrap (bits BinOp.and IntKind.u64 1 (IntKind.u64.wrap (-1)) * 285870213051353865) / 288230376151711744 = 0 := by decide +kernel
  go_enter Tryd.func102, Tryd.ntmps102
  go_wp2
  go_ret
  exact ⟨rfl, rfl⟩
set_option maxRecDepth 10000 in
theorem tz2 (w : World) (h : Tabs w) : Calls Tryd.prog 102 #[.int .u64 2] w fun e w' => w = w' ∧ e = .returned (.int .i64 1) := by
  obtain ⟨h0, h1, h2, h3⟩ := h
  have hx : IntKind.u64.wrap (bits BinOp.and IntKind.u64 2 (IntKind.u64.wrap (-2)) * 285870213051353865) / 288230376151711744 = 1 := by decide +kernel
  go_enter Tryd.func102, Tryd.ntmps102
  go_wp2
  go_ret
  exact ⟨rfl, rfl⟩
set_option maxRecDepth 10000 in
theorem tz4 (w : World) (h : Tabs w) : Calls Tryd.prog 102 #[.int .u64 4] w fun e w' => w = w' ∧ e = .returned (.int .i64 2) := by
  obtain ⟨h0, h1, h2, h3⟩ := h
  have hx : IntKind.u64.wrap (bits BinOp.and IntKind.u64 4 (IntKind.u64.wrap (-4)) * 285870213051353865) / 288230376151711744 = 3 := by decide +kernel
  go_enter Tryd.func102, Tryd.ntmps102
  go_wp2
  go_ret
  exact ⟨rfl, rfl⟩
set_option maxRecDepth 10000 in
theorem tz8 (w : World) (h : Tabs w) : Calls Tryd.prog 102 #[.int .u64 8] w fun e w' => w = w' ∧ e = .returned (.int .i64 3) := by
  obtain ⟨h0, h1, h2, h3⟩ := h
  have hx : IntKind.u64.wrap (bits BinOp.and IntKind.u64 8 (IntKind.u64.wrap (-8)) * 285870213051353865) / 288230376151711744 = 7 := by decide +kernel
  go_enter Tryd.func102, Tryd.ntmps102
  go_wp2
  go_ret
  exact ⟨rfl, rfl⟩
def onesOf (k : Int) : Int := if k = 3 ∨ k = 5 ∨ k = 6 then 2 else if k = 7 then 3 else 1
set_option maxRecDepth 10000 in
theorem oc1 (w : World) : Calls Tryd.prog 101 #[.int .u64 1] w fun e w' => w = w' ∧ e = .returned (.int .i64 1) := by
  go_enter Tryd.func101, Tryd.ntmps101
  go_wp2
  go_ret
  exact ⟨rfl, ret_int (by decide +kernel)⟩
set_option maxRecDepth 10000 in
theorem oc2 (w : World) : Calls Tryd.prog 101 #[.int .u64 2] w fun e w' => w = w' ∧ e = .returned (.int .i64 1) := by
  go_enter Tryd.func101, Tryd.ntmps101
  go_wp2
  go_ret
  exact ⟨rfl, ret_int (by decide +kernel)⟩
set_option maxRecDepth 10000 in
theorem oc3 (w : World) : Calls Tryd.prog 101 #[.int .u64 3] w fun e w' => w = w' ∧ e = .returned (.int .i64 2) := by
  go_enter Tryd.func101, Tryd.ntmps101
  go_wp2
  go_ret
  exact ⟨rfl, ret_int (by decide +kernel)⟩
set_option maxRecDepth 10000 in
theorem oc4 (w : World) : Calls Tryd.prog 101 #[.int .u64 4] w fun e w' => w = w' ∧ e = .returned (.int .i64 1) := by
  go_enter Tryd.func101, Tryd.ntmps101
  go_wp2
  go_ret
  exact ⟨rfl, ret_int (by decide +kernel)⟩
set_option maxRecDepth 10000 in
theorem oc5 (w : World) : Calls Tryd.prog 101 #[.int .u64 5] w fun e w' => w = w' ∧ e = .returned (.int .i64 2) := by
  go_enter Tryd.func101, Tryd.ntmps101
  go_wp2
  go_ret
  exact ⟨rfl, ret_int (by decide +kernel)⟩
set_option maxRecDepth 10000 in
theorem oc6 (w : World) : Calls Tryd.prog 101 #[.int .u64 6] w fun e w' => w = w' ∧ e = .returned (.int .i64 2) := by
  go_enter Tryd.func101, Tryd.ntmps101
  go_wp2
  go_ret
  exact ⟨rfl, ret_int (by decide +kernel)⟩
set_option maxRecDepth 10000 in
theorem oc7 (w : World) : Calls Tryd.prog 101 #[.int .u64 7] w fun e w' => w = w' ∧ e = .returned (.int .i64 3) := by
  go_enter Tryd.func101, Tryd.ntmps101
  go_wp2
  go_ret
  exact ⟨rfl, ret_int (by decide +kernel)⟩
set_option maxRecDepth 10000 in
theorem oc8 (w : World) : Calls Tryd.prog 101 #[.int .u64 8] w fun e w' => w = w' ∧ e = .returned (.int .i64 1) := by
  go_enter Tryd.func101, Tryd.ntmps101
  go_wp2
  go_ret
  exact ⟨rfl, ret_int (by decide +kernel)⟩
theorem oc_any (k : Int) (w : World) (h1 : 1 ≤ k) (h8 : k ≤ 8) : Calls Tryd.prog 101 #[.int .u64 k] w fun e w' => w = w' ∧ e = .returned (.int .i64 (onesOf k)) := by
  rcases (show k = 1 ∨ k = 2 ∨ k = 3 ∨ k = 4 ∨ k = 5 ∨ k = 6 ∨ k = 7 ∨ k = 8 by omega) with rfl | rfl | rfl | rfl | rfl | rfl | rfl | rfl
  · exact oc1 w
  · exact oc2 w
  · exact oc3 w
  · exact oc4 w
  · exact oc5 w
  · exact oc6 w
  · exact oc7 w
  · exact oc8 w
theorem tz_any (s : Nat) (w : World) (h : Tabs w) (hs : s = 1 ∨ s = 2 ∨ s = 4 ∨ s = 8) : Calls Tryd.prog 102 #[.int .u64 (s : Int)] w fun e w' => w = w' ∧ e = .returned (.int .i64 (tg s : Int)) := by
  rcases hs with rfl | rfl | rfl | rfl
  · exact tz1 w h
  · exact tz2 w h
  · exact tz4 w h
  · exact tz8 w h

theorem szN_first (n k : Nat) (h1 : 1 ≤ k) (hj : ∀ j : Nat, 1 ≤ j → j < k → fits n (j : Int) = false) (h : fits n (k : Int) = true) : szN n = k := by
  have e1 := hj 1 (by omega)
  have e2 := hj 2 (by omega)
  have e4 := hj 4 (by omega)
  simp only [Bool.eq_false_iff, ne_eq, fits_iff] at e1 e2 e4
  rw [fits_iff] at h
  rcases szN_cases n with h' | h' | h' | h' | h' <;> omega
theorem szN_none (n : Nat) (hj : ∀ j : Nat, 1 ≤ j → j < 9 → fits n (j : Int) = false) : szN n = 0 := by
  have e8 := hj 8 (by omega) (by omega)
  simp only [Bool.eq_false_iff, ne_eq, fits_iff] at e8
  rcases szN_cases n with h' | h' | h' | h' | h' <;> omega
set_option maxRecDepth 10000 in
theorem refsize_any (n : Nat) (w : World) : Calls Tryd.prog 91 #[.int .u64 (n : Int)] w fun e w' => w = w' ∧ e = .returned (.int .i64 (szN n : Int)) := by
  go_enter Tryd.func91, Tryd.ntmps91
  go_wp2
  go_loop [3] (fun i => ∃ k : Nat, 1 ≤ k ∧ k ≤ 9 ∧ i = .int .i64 k ∧ Hid (∀ j : Nat, 1 ≤ j → j < k → fits n (j : Int) = false)) (fun i => 9 - (intOf i).toNat)
  case atStart => exact ⟨1, by omega, by omega, rfl, fun j h1 h2 => by omega⟩
  case round =>
    obtain ⟨k, hk, hk9, rfl, H⟩ := hrel
    by_cases hlt : k < 9
    · cases hf : fits n (k : Int)
      all_goals
        have HF := Lib.hid hf
        clear hf
        go_wp2_with (go_at_call 99; refine (fits_any _ _ _).mono ?_; rintro e w' ⟨rfl, rfl⟩; rw [HF.out])
      · go_round
        case rel => exact ⟨k + 1, by omega, by omega, by go_num, fun j h1 h2 => by
          by_cases e : j = k
          · subst e; exact HF.out
          · exact H.out j h1 (by omega)⟩
        case measure => simp [intOf]; omega
      · go_ret
        exact ⟨rfl, ret_int (by rw [szN_first n k hk H.out HF.out])⟩
    · go_wp2
      go_ret
      exact ⟨rfl, ret_int (by rw [szN_none n (fun j h1 h2 => H.out j h1 (by omega))]; rfl)⟩
set_option maxRecDepth 10000 in
theorem size_any (n : Nat) (w : World) : Calls Tryd.prog 98 #[.int .u64 (n : Int)] w fun e w' => w = w' ∧ e = .returned (.int .i64 (szN n : Int)) := by
  go_enter Tryd.func98, Tryd.ntmps98
  go_wp2
  go_loop [3] (fun i => ∃ k : Int, i = .int .i64 k ∧ (k = 1 ∨ (k = 2 ∧ (64 : Int) ≤ n) ∨ (k = 4 ∧ (16384 : Int) ≤ n) ∨ (k = 8 ∧ (1073741824 : Int) ≤ n) ∨ (k = 16 ∧ (4611686018427387904 : Int) ≤ n))) (fun i => 16 - (intOf i).toNat)
  case atStart => exact ⟨1, rfl, by omega⟩
  case round =>
    obtain ⟨k, rfl, hk⟩ := hrel
    rcases hk with rfl | ⟨rfl, hn⟩ | ⟨rfl, hn⟩ | ⟨rfl, hn⟩ | ⟨rfl, hn⟩
    · by_cases hlt : (n : Int) < 64
      · go_wp2
        go_ret
        exact ⟨rfl, ret_int (by rcases szN_cases n with h' | h' | h' | h' | h' <;> omega)⟩
      · go_wp2
        go_round
        case rel => exact ⟨2, rfl, by omega⟩
        case measure => simp [intOf]
    · by_cases hlt : (n : Int) < 16384
      · go_wp2
        go_ret
        exact ⟨rfl, ret_int (by rcases szN_cases n with h' | h' | h' | h' | h' <;> omega)⟩
      · go_wp2
        go_round
        case rel => exact ⟨4, rfl, by omega⟩
        case measure => simp [intOf]
    · by_cases hlt : (n : Int) < 1073741824
      · go_wp2
        go_ret
        exact ⟨rfl, ret_int (by rcases szN_cases n with h' | h' | h' | h' | h' <;> omega)⟩
      · go_wp2
        go_round
        case rel => exact ⟨8, rfl, by omega⟩
        case measure => simp [intOf]
    · by_cases hlt : (n : Int) < 4611686018427387904
      · go_wp2
        go_ret
        exact ⟨rfl, ret_int (by rcases szN_cases n with h' | h' | h' | h' | h' <;> omega)⟩
      · go_wp2
        go_round
        case rel => exact ⟨16, rfl, by omega⟩
        case measure => simp [intOf]
    · go_wp2
      go_ret
      exact ⟨rfl, ret_int (by rcases szN_cases n with h' | h' | h' | h' | h' <;> omega)⟩
end Go.Proofs.YteegonadodmeeaaDoor
