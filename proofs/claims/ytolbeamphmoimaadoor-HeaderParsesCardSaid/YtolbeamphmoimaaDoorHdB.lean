/- The comparison of bytes by the library, and of two headers: of the program and of the document. -/
import Derived.Test.YtolbeamphmoimaaDoorHdA
import Derived.WalkLawsBesides
namespace Go.Proofs.YtolbeamphmoimaaDoor
open Go.RowKit

theorem conv_any {w : World} {v : Value} {l : List UInt8} (h : Byts w v l) : (convert 23 9 v).run Tryd.prog w = .ok (.string ⟨l.toArray⟩) w := by
  by_cases h0 : l = []
  · subst h0
    obtain ⟨a, cap, rfl, _⟩ := byts_val h
    cases a with
    | none => exact run_convert_bytes_nil (P := Tryd.prog) w 23 5 Tryd.underlying23 Tryd.underlying5 _ _ 9 Tryd.underlying9
    | some ad =>
      rw [run_convert_bytes_string (P := Tryd.prog) w 23 9 5 _ _ _ Tryd.underlying23 Tryd.underlying5 Tryd.underlying9]
      exact run_bytesToString w ad 0 cap [] (by simp [loadCells, loadCellsFrom, Sem.run_pure])
  · obtain ⟨b, off, cap, rfl, h1, h2, h3⟩ := byts_addr h h0
    have := run_convert_bytes_arg (P := Tryd.prog) w 23 5 Tryd.underlying23 Tryd.underlying5 b off l.length cap (l.map fun x => (x.toNat : Int)) (by simp) (fun i hi => by
      have hx := h3 i _ (List.getElem?_eq_getElem hi)
      rw [hx]
      simp [List.getD, hi, bv]) 9 Tryd.underlying9
    rw [this]
    congr 2
    unfold strOfNums
    congr 1
    apply Array.toList_inj.1
    simp [List.map_map, Function.comp_def]
theorem toList_mk (l : List UInt8) : (ByteArray.mk l.toArray).toList = l := by rw [Go.ByteArray.toList_eq]
theorem eq_any {w : World} {a b : Value} {la lb : List UInt8} (ha : Byts w a la) (hb : Byts w b lb) :
    Calls Tryd.prog 28 #[a, b] w fun e w' => w = w' ∧ e = .returned (.bool (decide (la = lb))) := by
  have ca := conv_any ha
  have cb := conv_any hb
  obtain ⟨sa, hsa, hsa'⟩ : ∃ sa : ByteArray, sa = ⟨la.toArray⟩ ∧ sa.toList = la := ⟨_, rfl, toList_mk la⟩
  obtain ⟨sb, hsb, hsb'⟩ : ∃ sb : ByteArray, sb = ⟨lb.toArray⟩ ∧ sb.toList = lb := ⟨_, rfl, toList_mk lb⟩
  obtain ⟨aa, ac, rfl, _⟩ := byts_val ha
  obtain ⟨ba, bc, rfl, _⟩ := byts_val hb
  rw [← hsa] at ca
  rw [← hsb] at cb
  have HA := Lib.hid hsa'
  have HB := Lib.hid hsb'
  clear hsa hsb hsa' hsb' ha hb
  generalize la.length = na at *
  generalize lb.length = nb at *
  go_enter Tryd.func28, Tryd.ntmps28
  go_wp2
  go_ret
  refine ⟨rfl, ret_bool ?_⟩
  rw [HA.out, HB.out, Bool.eq_iff_iff]
  simp

def sameB (h g : Hd) : Bool := h.long == g.long && h.phase == g.phase && decide (h.kind = g.kind) && decide (h.ver = g.ver) && decide (h.rest = g.rest) && decide (h.dst = g.dst) && decide (h.src = g.src) && decide (h.tok = g.tok) && decide (h.cut = g.cut)
theorem nat_beq (a b : Nat) : ((a : Int) == (b : Int)) = decide (a = b) := by rw [Bool.eq_iff_iff]; simp; omega
theorem int_beq (a b : Int) : (a == b) = decide (a = b) := by rw [Bool.eq_iff_iff]; simp
set_option maxHeartbeats 4000000 in
set_option maxRecDepth 10000 in
theorem hsame_any {w : World} {h g : Hd} {d s t c d' s' t' c' : Value} (hv : HdV w h d s t c) (gv : HdV w g d' s' t' c') :
    Calls Tryd.prog 17 #[hdV h d s t c, hdV g d' s' t' c'] w fun e w' => e = .returned (.bool (sameB h g)) ∧ Mod (fun _ => False) w w' := by
  have e6 := Lib.hid (fun w' (hM : Mod (fun _ => False) w w') => eq_any (hv.kept hM).d (gv.kept hM).d)
  have e7 := Lib.hid (fun w' (hM : Mod (fun _ => False) w w') => eq_any (hv.kept hM).s (gv.kept hM).s)
  have e8 := Lib.hid (fun w' (hM : Mod (fun _ => False) w w') => eq_any (hv.kept hM).t (gv.kept hM).t)
  have e9 := Lib.hid (fun w' (hM : Mod (fun _ => False) w w') => eq_any (hv.kept hM).c (gv.kept hM).c)
  obtain ⟨da, dc, rfl, _⟩ := byts_val hv.d
  obtain ⟨sa, sc, rfl, _⟩ := byts_val hv.s
  obtain ⟨ta, tc, rfl, _⟩ := byts_val hv.t
  obtain ⟨ca, cc, rfl, _⟩ := byts_val hv.c
  obtain ⟨da', dc', rfl, _⟩ := byts_val gv.d
  obtain ⟨sa', sc', rfl, _⟩ := byts_val gv.s
  obtain ⟨ta', tc', rfl, _⟩ := byts_val gv.t
  obtain ⟨ca', cc', rfl, _⟩ := byts_val gv.c
  have HS : Hid (sameB h g = (h.long == g.long && h.phase == g.phase && (h.kind == g.kind) && ((h.ver : Int) == g.ver) && (h.rest == g.rest) && decide (h.dst = g.dst) && decide (h.src = g.src) && decide (h.tok = g.tok) && decide (h.cut = g.cut))) := by
    show _ = _; rw [nat_beq, int_beq, int_beq]; rfl
  unfold hdV
  generalize sameB h g = SB at *
  generalize decide (h.dst = g.dst) = b6 at *
  generalize decide (h.src = g.src) = b7 at *
  generalize decide (h.tok = g.tok) = b8 at *
  generalize decide (h.cut = g.cut) = b9 at *
  generalize h.dst.length = nd at *
  generalize h.src.length = ns at *
  generalize h.tok.length = nt at *
  generalize h.cut.length = nc at *
  generalize h.long = lo at *
  generalize h.phase = ph at *
  generalize h.kind = ki at *
  generalize (h.ver : Int) = ve at *
  generalize h.rest = re at *
  generalize g.dst.length = nd' at *
  generalize g.src.length = ns' at *
  generalize g.tok.length = nt' at *
  generalize g.cut.length = nc' at *
  generalize g.long = lo' at *
  generalize g.phase = ph' at *
  generalize g.kind = ki' at *
  generalize (g.ver : Int) = ve' at *
  generalize g.rest = re' at *
  clear hv gv
  go_enter Tryd.func17, Tryd.ntmps17
  go_wp2_with first
    | ((with_reducible refine (e6.out _ (((Mod.refl _ w).alloc _).alloc _)).mono ?_); rintro e w' ⟨rfl, rfl⟩)
    | ((with_reducible refine (e7.out _ (((Mod.refl _ w).alloc _).alloc _)).mono ?_); rintro e w' ⟨rfl, rfl⟩)
    | ((with_reducible refine (e8.out _ (((Mod.refl _ w).alloc _).alloc _)).mono ?_); rintro e w' ⟨rfl, rfl⟩)
    | ((with_reducible refine (e9.out _ (((Mod.refl _ w).alloc _).alloc _)).mono ?_); rintro e w' ⟨rfl, rfl⟩)
  all_goals go_ret
  all_goals refine ⟨ret_bool ?_, ((Mod.refl _ w).alloc _).alloc _⟩
  all_goals go_tidy
  all_goals rw [HS.out]
  all_goals first | (simp_all; done) | (rw [Bool.eq_iff_iff]; simp_all; done)
end Go.Proofs.YtolbeamphmoimaaDoor
