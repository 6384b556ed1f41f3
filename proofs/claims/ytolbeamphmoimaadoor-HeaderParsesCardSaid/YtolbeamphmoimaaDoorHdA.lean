/- A packet's header in memory; whether it is right: of the program and of the document. -/
import Derived.Test.YtolbeamphmoimaaDoorVarF
namespace Go.Proofs.YtolbeamphmoimaaDoor
open Go.RowKit

structure Hd where
  long : Bool
  phase : Bool
  kind : Int
  ver : Nat
  dst : List UInt8
  src : List UInt8
  tok : List UInt8
  cut : List UInt8
  rest : Int
/-- A header's value: its slices read as bytes; none is longer than what can be. -/
structure HdV (w : World) (h : Hd) (d s t c : Value) : Prop where
  d : Byts w d h.dst
  s : Byts w s h.src
  t : Byts w t h.tok
  c : Byts w c h.cut
  ver : h.ver < 4294967296
  dl : (h.dst.length : Int) ≤ 140737488355328
  sl : (h.src.length : Int) ≤ 140737488355328
  tl : (h.tok.length : Int) ≤ 140737488355328
  cl : (h.cut.length : Int) ≤ 140737488355328
  kind : -9223372036854775808 ≤ h.kind ∧ h.kind ≤ 9223372036854775807
  rest : -9223372036854775808 ≤ h.rest ∧ h.rest ≤ 9223372036854775807
def hdV (h : Hd) (d s t c : Value) : Value := .agg #[.bool h.long, .bool h.phase, .int .i64 h.kind, .int .u32 (h.ver : Int), d, s, t, c, .int .i64 h.rest]
theorem HdV.kept {w w' : World} {h : Hd} {d s t c : Value} (hv : HdV w h d s t c) (hM : Mod (fun _ => False) w w') : HdV w' h d s t c :=
  ⟨hv.d.kept hM (fun _ _ h => h), hv.s.kept hM (fun _ _ h => h), hv.t.kept hM (fun _ _ h => h), hv.c.kept hM (fun _ _ h => h), hv.ver, hv.dl, hv.sl, hv.tl, hv.cl, hv.kind, hv.rest⟩
/-- Is it right? -/
def rightB (h : Hd) : Bool :=
  decide (1 ≤ h.cut.length) && decide (h.cut.length ≤ 4) && decide (h.dst.length ≤ 20) && decide (h.src.length ≤ 20) && decide (0 ≤ h.rest) && decide (h.rest ≤ 1200) &&
  (if h.long then !h.phase && decide (h.tok.length ≤ 200) && (decide (h.kind = 0) || (decide (h.kind = 2) && decide (h.tok.length = 0)))
   else decide (h.kind = 0) && decide (h.ver = 0) && decide (h.src.length = 0) && decide (h.tok.length = 0) && decide (h.dst.length = 8))

theorem within_any (n lo hi : Int) (w : World) : Calls Tryd.prog 23 #[.int .i64 n, .int .i64 lo, .int .i64 hi] w fun e w' => w = w' ∧ e = .returned (.bool (decide (lo ≤ n) && decide (n ≤ hi))) := by
  by_cases h1 : lo ≤ n
  · by_cases h2 : n ≤ hi
    · go_enter Tryd.func23, Tryd.ntmps23
      go_wp2
      go_ret
      exact ⟨rfl, ret_bool (by simp [h1, h2])⟩
    · go_enter Tryd.func23, Tryd.ntmps23
      go_wp2
      go_ret
      exact ⟨rfl, ret_bool (by simp; omega)⟩
  · go_enter Tryd.func23, Tryd.ntmps23
    go_wp2
    go_ret
    exact ⟨rfl, ret_bool (by simp; omega)⟩

set_option maxHeartbeats 2000000 in
set_option maxRecDepth 10000 in
theorem right_any {w : World} {h : Hd} {d s t c : Value} (hv : HdV w h d s t c) : Calls Tryd.prog 12 #[hdV h d s t c] w fun e w' => e = .returned (.bool (rightB h)) ∧ Mod (fun _ => False) w w' := by
  obtain ⟨da, dc, rfl, _⟩ := byts_val hv.d
  obtain ⟨sa, sc, rfl, _⟩ := byts_val hv.s
  obtain ⟨ta, tc, rfl, _⟩ := byts_val hv.t
  obtain ⟨ca, cc, rfl, _⟩ := byts_val hv.c
  unfold hdV rightB
  generalize h.dst.length = nd at *
  generalize h.src.length = ns at *
  generalize h.tok.length = nt at *
  generalize h.cut.length = nc at *
  generalize h.long = lo at *
  generalize h.phase = ph at *
  generalize h.kind = ki at *
  generalize h.ver = ve at *
  generalize h.rest = re at *
  clear hv
  cases lo
  all_goals
    go_enter Tryd.func12, Tryd.ntmps12
    go_wp2_with (go_at_call 23; refine (within_any _ _ _ _).mono ?_; rintro e w' ⟨rfl, rfl⟩)
  all_goals go_ret
  all_goals refine ⟨ret_bool ?_, (Mod.refl _ w).alloc _⟩
  all_goals go_tidy
  all_goals first | (simp_all; done) | (simp_all; omega) | (rw [Bool.eq_iff_iff]; simp_all; done) | (rw [Bool.eq_iff_iff]; simp_all; omega)

set_option maxHeartbeats 4000000 in
set_option maxRecDepth 10000 in
theorem refright_any {w : World} {h : Hd} {d s t c : Value} (hv : HdV w h d s t c) : Calls Tryd.prog 13 #[hdV h d s t c] w fun e w' => e = .returned (.bool (rightB h)) ∧ Mod (fun _ => False) w w' := by
  obtain ⟨da, dc, rfl, _⟩ := byts_val hv.d
  obtain ⟨sa, sc, rfl, _⟩ := byts_val hv.s
  obtain ⟨ta, tc, rfl, _⟩ := byts_val hv.t
  obtain ⟨ca, cc, rfl, _⟩ := byts_val hv.c
  have hsl := hv.sl
  have htl := hv.tl
  unfold hdV rightB
  generalize h.dst.length = nd at *
  generalize h.src.length = ns at *
  generalize h.tok.length = nt at *
  generalize h.cut.length = nc at *
  generalize h.long = lo at *
  generalize h.phase = ph at *
  generalize h.kind = ki at *
  generalize h.ver = ve at *
  generalize h.rest = re at *
  clear hv
  cases lo
  all_goals
    go_enter Tryd.func13, Tryd.ntmps13
    go_wp2
  all_goals go_ret
  all_goals refine ⟨ret_bool ?_, (Mod.refl _ w).alloc _⟩
  all_goals go_tidy
  all_goals first | (simp_all; done) | (simp_all; omega) | (rw [Bool.eq_iff_iff]; simp_all; done) | (rw [Bool.eq_iff_iff]; simp_all; omega)
end Go.Proofs.YtolbeamphmoimaaDoor
