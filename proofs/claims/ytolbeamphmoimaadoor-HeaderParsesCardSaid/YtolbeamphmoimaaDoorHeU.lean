/- The walk of the law that whatever bytes are parsed as, and whose they are, is the document's. -/
import Derived.Test.YtolbeamphmoimaaDoorHeS
import Derived.Test.YtolbeamphmoimaaDoorHeT
import Derived.Test.YtolbeamphmoimaaDoorHeA
namespace Go.Proofs.YtolbeamphmoimaaDoor
open Go.RowKit

theorem rparse_is {w : World} {v : Value} {l : List UInt8} {h : Hd} {n e : Int} (hb : Byts w v l) (hl : (l.length : Int) ≤ 5000) (hp : parseL l = (h, n, e)) :
    Calls Tryd.prog 20 #[v] w fun x w' => ∃ da dc sa sc ta tc ca cc, x = .returned (.tuple #[.agg #[.bool h.long, .bool h.phase, .int .i64 h.kind, .int .u32 (h.ver : Int), .slice da h.dst.length dc, .slice sa h.src.length sc, .slice ta h.tok.length tc, .slice ca h.cut.length cc, .int .i64 h.rest], .int .i64 n, .int .i64 e]) ∧ HdV w' h (.slice da h.dst.length dc) (.slice sa h.src.length sc) (.slice ta h.tok.length tc) (.slice ca h.cut.length cc) ∧ Mod (fun _ => False) w w' := by
  have := rparse_any hb hl
  rw [hp] at this
  refine this.mono ?_
  rintro x w' ⟨d, s, t, c, hx, hv, hM⟩
  obtain ⟨da, dc, rfl, _⟩ := byts_val hv.d
  obtain ⟨sa, sc, rfl, _⟩ := byts_val hv.s
  obtain ⟨ta, tc, rfl, _⟩ := byts_val hv.t
  obtain ⟨ca, cc, rfl, _⟩ := byts_val hv.c
  exact ⟨da, dc, sa, sc, ta, tc, ca, cc, hx, hv, hM⟩
theorem parse_is' {w : World} {v : Value} {l : List UInt8} {h : Hd} {n e : Int} (hb : Byts w v l) (hl : (l.length : Int) ≤ 5000) (hp : parseL l = (h, n, e)) :
    Calls Tryd.prog 19 #[v] w fun x w' => ∃ da dc sa sc ta tc ca cc, x = .returned (.tuple #[.agg #[.bool h.long, .bool h.phase, .int .i64 h.kind, .int .u32 (h.ver : Int), .slice da h.dst.length dc, .slice sa h.src.length sc, .slice ta h.tok.length tc, .slice ca h.cut.length cc, .int .i64 h.rest], .int .i64 n, .int .i64 e]) ∧ HdV w' h (.slice da h.dst.length dc) (.slice sa h.src.length sc) (.slice ta h.tok.length tc) (.slice ca h.cut.length cc) ∧ Mod (fun _ => False) w w' := by
  refine (parse_is hb hl hp).mono ?_
  rintro x w' ⟨da, dc, sa, sc, ta, tc, ca, cc, hx, hv, hM, _⟩
  exact ⟨da, dc, sa, sc, ta, tc, ca, cc, hx, hv, hM⟩
theorem peek_is {w : World} {v : Value} {l D : List UInt8} {i o : Bool} (hb : Byts w v l) (hl : (l.length : Int) ≤ 5000) (hp : peekL l = (D, i, o)) :
    Calls Tryd.prog 21 #[v] w fun x w' => ∃ a cp, x = .returned (.tuple #[.slice a D.length cp, .bool i, .bool o]) ∧ Byts w' (.slice a D.length cp) D ∧ Mod (fun _ => False) w w' := by
  have := peek_any hb hl
  rw [hp] at this
  refine this.mono ?_
  rintro x w' ⟨v, hx, hv, hM⟩
  obtain ⟨a, cp, rfl, _⟩ := byts_val hv
  exact ⟨a, cp, hx, hv, hM⟩
theorem rpeek_is {w : World} {v : Value} {l D : List UInt8} {i o : Bool} (hb : Byts w v l) (hp : peekL l = (D, i, o)) :
    Calls Tryd.prog 22 #[v] w fun x w' => ∃ a cp, x = .returned (.tuple #[.slice a D.length cp, .bool i, .bool o]) ∧ Byts w' (.slice a D.length cp) D ∧ Mod (fun _ => False) w w' := by
  have := rpeek_any hb
  rw [hp] at this
  refine this.mono ?_
  rintro x w' ⟨v, hx, hv, hM⟩
  obtain ⟨a, cp, rfl, _⟩ := byts_val hv
  exact ⟨a, cp, hx, hv, hM⟩

set_option maxHeartbeats 8000000 in
set_option maxRecDepth 10000 in
theorem hparses_any {w : World} {vb : Value} {lb : List UInt8} (hT : Tabs w) (hb : Byts w vb lb) (hlb : (lb.length : Int) ≤ 140737488355328) :
    Calls Tryd.prog 4 #[vb] w fun e w' => e = .returned (.bool true) ∧ Below w.heap.size w w' := by
  have HT := Lib.hid hT
  have HBB := Lib.hid hb
  obtain ⟨ba, bc, rfl, _⟩ := byts_val hb
  obtain ⟨h, n, f, hp⟩ : ∃ h n f, parseL lb = (h, n, f) := ⟨_, _, _, rfl⟩
  obtain ⟨D, i, o, hk⟩ : ∃ D i o, peekL lb = (D, i, o) := ⟨_, _, _, rfl⟩
  have HP : Hid (∀ X, Mod (fun _ => False) w X → (lb.length : Int) ≤ 1500 → _) := fun X hM hl => parse_is' (byts_kept HBB.out hM) (by omega) hp
  have HR : Hid (∀ X, Mod (fun _ => False) w X → (lb.length : Int) ≤ 1500 → _) := fun X hM hl => rparse_is (byts_kept HBB.out hM) (by omega) hp
  have HK : Hid (∀ X, Mod (fun _ => False) w X → (lb.length : Int) ≤ 1500 → _) := fun X hM hl => peek_is (byts_kept HBB.out hM) (by omega) hk
  have HKR : Hid (∀ X, Mod (fun _ => False) w X → _) := fun X hM => rpeek_is (byts_kept HBB.out hM) hk
  have HSM : Hid (∀ X da dc sa sc ta tc ca cc da' dc' sa' sc' ta' tc' ca' cc', HdV X h (.slice da h.dst.length dc) (.slice sa h.src.length sc) (.slice ta h.tok.length tc) (.slice ca h.cut.length cc) → HdV X h (.slice da' h.dst.length dc') (.slice sa' h.src.length sc') (.slice ta' h.tok.length tc') (.slice ca' h.cut.length cc') →
      Calls Tryd.prog 18 #[.agg #[.bool h.long, .bool h.phase, .int .i64 h.kind, .int .u32 (h.ver : Int), .slice da h.dst.length dc, .slice sa h.src.length sc, .slice ta h.tok.length tc, .slice ca h.cut.length cc, .int .i64 h.rest], .agg #[.bool h.long, .bool h.phase, .int .i64 h.kind, .int .u32 (h.ver : Int), .slice da' h.dst.length dc', .slice sa' h.src.length sc', .slice ta' h.tok.length tc', .slice ca' h.cut.length cc', .int .i64 h.rest]] X fun e Y => e = .returned (.bool true) ∧ Mod (fun _ => False) X Y) := by
    intro X da dc sa sc ta tc ca cc da' dc' sa' sc' ta' tc' ca' cc' h1 h2
    have := refhsame_any h1 h2
    rw [same_self] at this
    exact this
  clear hT hb hp hk
  generalize h.dst.length = nd at *
  generalize h.src.length = ns at *
  generalize h.tok.length = nt at *
  generalize h.cut.length = nc at *
  generalize h.long = lo at *
  generalize h.phase = ph at *
  generalize h.kind = ki at *
  generalize (h.ver : Int) = ve at *
  generalize h.rest = re at *
  obtain ⟨nD, hnD⟩ : ∃ nD, nD = D.length := ⟨_, rfl⟩
  rw [← hnD] at HK HKR
  clear hnD
  generalize lb.length = nb at *
  go_enter Tryd.func4, Tryd.ntmps4
  go_wp2_with fail
  refine (alive_any _ HT.out).mono ?_
  rintro e w1 ⟨rfl, hM1⟩
  have hMw1 := Lib.hid hM1
  clear hM1
  by_cases hl : (1500 : Int) < nb
  · go_wp2_with fail
    go_ret
    exact ⟨rfl, hMw1.out.none_below⟩
  · have hli : (nb : Int) ≤ 1500 := by omega
    clear hl
    go_wp2_with fail
    refine (HP.out _ hMw1.out hli).mono ?_
    rintro e w2 ⟨da2, dc2, sa2, sc2, ta2, tc2, ca2, cc2, rfl, hv2, hM2⟩
    have hA2 : Mod (fun _ => False) w2 (w2.alloc (.cells #[.bool lo, .bool ph, .int .i64 ki, .int .u32 ve, .slice da2 nd dc2, .slice sa2 ns sc2, .slice ta2 nt tc2, .slice ca2 nc cc2, .int .i64 re] 25)) := (Mod.refl _ _).alloc _
    have HV2 := Lib.hid (hv2.kept hA2)
    have hMw2 := Lib.hid (hMw1.out.trans (hM2.trans hA2))
    have HX2 := Lib.hid (Blk.new w2 #[.bool lo, .bool ph, .int .i64 ki, .int .u32 ve, .slice da2 nd dc2, .slice sa2 ns sc2, .slice ta2 nt tc2, .slice ca2 nc cc2, .int .i64 re] 25)
    clear hv2 hM2 hA2
    go_wp2_with fail
    refine (HR.out _ hMw2.out hli).mono ?_
    rintro e w3 ⟨da3, dc3, sa3, sc3, ta3, tc3, ca3, cc3, rfl, hv3, hM3⟩
    have hA3 : Mod (fun _ => False) w3 (w3.alloc (.cells #[.bool lo, .bool ph, .int .i64 ki, .int .u32 ve, .slice da3 nd dc3, .slice sa3 ns sc3, .slice ta3 nt tc3, .slice ca3 nc cc3, .int .i64 re] 25)) := (Mod.refl _ _).alloc _
    have HV3 := Lib.hid (hv3.kept hA3)
    have HV23 := Lib.hid (HV2.out.kept (hM3.trans hA3))
    have hMw3 := Lib.hid (hMw2.out.trans (hM3.trans hA3))
    have HX3 := Lib.hid (Blk.new w3 #[.bool lo, .bool ph, .int .i64 ki, .int .u32 ve, .slice da3 nd dc3, .slice sa3 ns sc3, .slice ta3 nt tc3, .slice ca3 nc cc3, .int .i64 re] 25)
    have HX23 := Lib.hid ((hM3.trans hA3).blk HX2.out (fun h => h))
    clear hv3 hM3 hA3
    go_wp2_with fail
    refine (HK.out _ hMw3.out hli).mono ?_
    rintro e w4 ⟨a4, cp4, rfl, hd4, hM4⟩
    have HD4 := Lib.hid hd4
    have hM34 := Lib.hid hM4
    clear hd4 hM4
    go_wp2_with fail
    refine (HKR.out _ (hMw3.out.trans hM34.out)).mono ?_
    rintro e w5 ⟨a5, cp5, rfl, hd5, hM5⟩
    have HD5 := Lib.hid hd5
    have HD45 := Lib.hid (byts_kept HD4.out hM5)
    have hM35 := Lib.hid (hM34.out.trans hM5)
    have hMw5 := Lib.hid (hMw3.out.trans hM35.out)
    have HV35 := Lib.hid (HV3.out.kept hM35.out)
    have HV25 := Lib.hid (HV23.out.kept hM35.out)
    obtain ⟨x0, x1, x2, x3, x4, x5, x6, x7, x8, x9⟩ := hd_cells (hM35.out.blk HX23.out (fun h => h))
    obtain ⟨y0, y1, y2, y3, y4, y5, y6, y7, y8, y9⟩ := hd_cells (hM35.out.blk HX3.out (fun h => h))
    clear hd5 hM5
    go_wp2_with fail
    refine (HSM.out _ da2 dc2 sa2 sc2 ta2 tc2 ca2 cc2 da3 dc3 sa3 sc3 ta3 tc3 ca3 cc3 HV25.out HV35.out).mono ?_
    rintro e w6 ⟨rfl, hM6⟩
    have HD56 := Lib.hid (byts_kept HD5.out hM6)
    have HD46 := Lib.hid (byts_kept HD45.out hM6)
    have hMw6 := Lib.hid (hMw5.out.trans hM6)
    clear hM6 x0 x1 x2 x3 x4 x5 x6 x7 x8 x9 y0 y1 y2 y3 y4 y5 y6 y7 y8 y9
    go_wp2_with fail
    refine (same_m HD46.out HD56.out).mono ?_
    rintro e w7 ⟨rfl, hM7⟩
    rw [decide_eq_true rfl]
    go_wp2_with fail
    go_ret
    exact ⟨rfl, (hMw6.out.trans hM7).none_below⟩
end Go.Proofs.YtolbeamphmoimaaDoor
