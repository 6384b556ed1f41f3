/- The comparison of two headers by the document. -/
import Derived.Test.YtolbeamphmoimaaDoorHdB
namespace Go.Proofs.YtolbeamphmoimaaDoor
open Go.RowKit

set_option maxHeartbeats 4000000 in
set_option maxRecDepth 10000 in
theorem refhsame_any {w : World} {h g : Hd} {d s t c d' s' t' c' : Value} (hv : HdV w h d s t c) (gv : HdV w g d' s' t' c') :
    Calls Tryd.prog 18 #[hdV h d s t c, hdV g d' s' t' c'] w fun e w' => e = .returned (.bool (sameB h g)) ∧ Mod (fun _ => False) w w' := by
  have e6 := Lib.hid (fun w' (hM : Mod (fun _ => False) w w') => same_any (hv.kept hM).d (gv.kept hM).d)
  have e7 := Lib.hid (fun w' (hM : Mod (fun _ => False) w w') => same_any (hv.kept hM).s (gv.kept hM).s)
  have e8 := Lib.hid (fun w' (hM : Mod (fun _ => False) w w') => same_any (hv.kept hM).t (gv.kept hM).t)
  have e9 := Lib.hid (fun w' (hM : Mod (fun _ => False) w w') => same_any (hv.kept hM).c (gv.kept hM).c)
  obtain ⟨da, dc, rfl, _⟩ := byts_val hv.d
  obtain ⟨sa, sc, rfl, _⟩ := byts_val hv.s
  obtain ⟨ta, tc, rfl, _⟩ := byts_val hv.t
  obtain ⟨ca, cc, rfl, _⟩ := byts_val hv.c
  obtain ⟨da', dc', rfl, _⟩ := byts_val gv.d
  obtain ⟨sa', sc', rfl, _⟩ := byts_val gv.s
  obtain ⟨ta', tc', rfl, _⟩ := byts_val gv.t
  obtain ⟨ca', cc', rfl, _⟩ := byts_val gv.c
  have HS : Hid (sameB h g = (h.long == g.long && h.phase == g.phase && (h.kind == g.kind) && ((h.ver : Int) == g.ver) && (h.rest == g.rest) && decide (h.dst = g.dst) && decide (h.src = g.src) && decide (h.tok = g.tok) && decide (h.cut = g.cut))) := by
    show _ = _; rw [nat_beq, int_beq, int_beq]; rfl
  unfold hdV
  generalize sameB h g = SB at *
  generalize decide (h.dst = g.dst) = b6 at *
  generalize decide (h.src = g.src) = b7 at *
  generalize decide (h.tok = g.tok) = b8 at *
  generalize decide (h.cut = g.cut) = b9 at *
  generalize h.dst.length = nd at *
  generalize h.src.length = ns at *
  generalize h.tok.length = nt at *
  generalize h.cut.length = nc at *
  generalize h.long = lo at *
  generalize h.phase = ph at *
  generalize h.kind = ki at *
  generalize (h.ver : Int) = ve at *
  generalize h.rest = re at *
  generalize g.dst.length = nd' at *
  generalize g.src.length = ns' at *
  generalize g.tok.length = nt' at *
  generalize g.cut.length = nc' at *
  generalize g.long = lo' at *
  generalize g.phase = ph' at *
  generalize g.kind = ki' at *
  generalize (g.ver : Int) = ve' at *
  generalize g.rest = re' at *
  clear hv gv
  go_enter Tryd.func18, Tryd.ntmps18
  go_wp2_with first
    | ((with_reducible refine (e6.out _ (by repeat (first | exact Mod.refl _ _ | refine Mod.drewN ?_ _ | refine Mod.alloc ?_ _))).mono ?_); rintro e w' ⟨⟨q, rfl⟩, rfl⟩)
    | ((with_reducible refine (e7.out _ (by repeat (first | exact Mod.refl _ _ | refine Mod.drewN ?_ _ | refine Mod.alloc ?_ _))).mono ?_); rintro e w' ⟨⟨q, rfl⟩, rfl⟩)
    | ((with_reducible refine (e8.out _ (by repeat (first | exact Mod.refl _ _ | refine Mod.drewN ?_ _ | refine Mod.alloc ?_ _))).mono ?_); rintro e w' ⟨⟨q, rfl⟩, rfl⟩)
    | ((with_reducible refine (e9.out _ (by repeat (first | exact Mod.refl _ _ | refine Mod.drewN ?_ _ | refine Mod.alloc ?_ _))).mono ?_); rintro e w' ⟨⟨q, rfl⟩, rfl⟩)
  all_goals go_ret
  all_goals refine ⟨ret_bool ?_, (by repeat (first | exact Mod.refl _ _ | refine Mod.drewN ?_ _ | refine Mod.alloc ?_ _))⟩
  all_goals go_tidy
  all_goals rw [HS.out]
  all_goals first | (simp_all; done) | (rw [Bool.eq_iff_iff]; simp_all; done)
end Go.Proofs.YtolbeamphmoimaaDoor
