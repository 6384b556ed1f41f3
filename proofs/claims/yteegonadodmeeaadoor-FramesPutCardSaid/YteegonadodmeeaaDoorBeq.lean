/- The comparison of bytes by the library (bytes.Equal); bytes as a string. (taken out of XHdB) -/
import Derived.Test.YteegonadodmeeaaDoorVarD
import Derived.WalkLawsBesides
namespace Go.Proofs.YteegonadodmeeaaDoor
open Go.RowKit

set_option maxRecDepth 10000 in
theorem conv_any {w : World} {v : Value} {l : List UInt8} (h : Byts w v l) : (convert 23 9 v).run Tryd.prog w = .ok (.string ⟨l.toArray⟩) w := by
  by_cases h0 : l = []
  · subst h0
    obtain ⟨a, cap, rfl, _⟩ := byts_val h
    cases a with
    | none => exact run_convert_bytes_nil (P := Tryd.prog) w 23 5 Tryd.underlying23 Tryd.underlying5 _ _ 9 Tryd.underlying9
    | some ad =>
      rw [run_convert_bytes_string (P := Tryd.prog) w 23 9 5 _ _ _ Tryd.underlying23 Tryd.underlying5 Tryd.underlying9]
      exact run_bytesToString w ad 0 cap [] (by simp [loadCells, loadCellsFrom, Sem.run_pure])
  · obtain ⟨b, off, cap, rfl, h1, h2, h3⟩ := byts_addr h h0
    have := run_convert_bytes_arg (P := Tryd.prog) w 23 5 Tryd.underlying23 Tryd.underlying5 b off l.length cap (l.map fun x => (x.toNat : Int)) (by simp) (fun i hi => by
      have hx := h3 i _ (List.getElem?_eq_getElem hi)
      rw [hx]
      simp [List.getD, hi, bv]) 9 Tryd.underlying9
    rw [this]
    congr 2
    unfold strOfNums
    congr 1
    apply Array.toList_inj.1
    simp [List.map_map, Function.comp_def]
theorem toList_mk (l : List UInt8) : (ByteArray.mk l.toArray).toList = l := by rw [Go.ByteArray.toList_eq]
set_option maxRecDepth 10000 in
theorem eq_any {w : World} {a b : Value} {la lb : List UInt8} (ha : Byts w a la) (hb : Byts w b lb) :
    Calls Tryd.prog 30 #[a, b] w fun e w' => w = w' ∧ e = .returned (.bool (decide (la = lb))) := by
  have ca := conv_any ha
  have cb := conv_any hb
  obtain ⟨sa, hsa, hsa'⟩ : ∃ sa : ByteArray, sa = ⟨la.toArray⟩ ∧ sa.toList = la := ⟨_, rfl, toList_mk la⟩
  obtain ⟨sb, hsb, hsb'⟩ : ∃ sb : ByteArray, sb = ⟨lb.toArray⟩ ∧ sb.toList = lb := ⟨_, rfl, toList_mk lb⟩
  obtain ⟨aa, ac, rfl, _⟩ := byts_val ha
  obtain ⟨ba, bc, rfl, _⟩ := byts_val hb
  rw [← hsa] at ca
  rw [← hsb] at cb
  have HA := Lib.hid hsa'
  have HB := Lib.hid hsb'
  clear hsa hsb hsa' hsb' ha hb
  generalize la.length = na at *
  generalize lb.length = nb at *
  go_enter Tryd.func30, Tryd.ntmps30
  go_wp2
  go_ret
  refine ⟨rfl, ret_bool ?_⟩
  rw [HA.out, HB.out, Bool.eq_iff_iff]
  simp

end Go.Proofs.YteegonadodmeeaaDoor
