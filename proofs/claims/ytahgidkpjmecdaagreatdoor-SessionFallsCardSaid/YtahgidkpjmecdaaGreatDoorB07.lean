/- Parts of the proof: SrE Rfn SrF ShI SoB SoC SoD SoP SoE. -/
import Derived.Test.YtahgidkpjmecdaaGreatDoorB06
import Derived.Deep.CutBlock
import Derived.Lib.MinMax
import Derived.RangeFuncWrites
import Derived.RangeFuncNested
import Derived.RangeFuncLeaves
import Derived.RangeFuncCalls
import Derived.RangeFuncBound
import Derived.Shelf.Abstract
import Derived.Shelf.RegionOpen
import Derived.OwnWalkIn
import Derived.TacticsInMore
import Derived.LoopNIn
import Derived.LoopIn
import Derived.Test.YtahgidkpjmecdaaGreatDoorProg
import Derived.Shelf.Lay
import Derived.Shelf.LaySoft
import Derived.Shelf.Bytes.SlIndexAt
import Derived.Shelf.Bytes.IndexByte
import Derived.Lib.IndexLaws
import Derived.Deep.Cut
set_option maxRecDepth 100000
namespace Go.Proofs.YtahgidkpjmecdaaGreatDoor
open Go.RowKit Go.Maps
theorem IMap.cellNe {K : TypeId} {q : IntKind} {w : World} {mb b i : Nat} {dom : List Int} {f : Int → Value} {v : Value} (h : IMap K q w mb dom f) (hc : w.cell? ⟨b, i, none⟩ = some v) : b ≠ mb := by
 obtain ⟨D, ⟨es, clock, h1, _⟩, _⟩ := h
 rintro rfl
 simp [World.cell?, h1] at hc
theorem u64_wf {n : Nat} (h : (n : Int) ≤ 9223372036854775807) : (Lit.int .u64 (n : Int)).wf = true := by
 have e1 : IntKind.min .u64 = 0 := rfl
 have e2 : IntKind.max .u64 = 18446744073709551615 := rfl
 show (decide (IntKind.min .u64 ≤ (n : Int)) && decide ((n : Int) ≤ IntKind.max .u64)) = true
 rw [e1, e2, decide_eq_true (by omega), decide_eq_true (by omega)]
 rfl
theorem byts_ne {K : TypeId} {q : IntKind} {w : World} {mb : Nat} {dom : List Int} {f : Int → Value} {v : Value} {l : List UInt8} (h : IMap K q w mb dom f) (hb : Byts w v l) : l.map bv ≠ [] → ∀ g, blockOf v = some g → ¬ g = mb := by
 intro hx g hg
 obtain ⟨b, off, cap, rfl, -, -, hc⟩ := Sl.addr hb hx
 simp only [blockOf, Option.some.injEq] at hg
 subst hg
 cases l with
 | nil => exact absurd rfl hx
 | cons c l => exact h.cellNe (hc 0 _ rfl)
structure PutL (w wr : World) (ib mb : Nat) (dv : Value) (o : IB) (off : Nat) (data : List UInt8) (k : Nat) : Prop where
 blk : Blk wr ib (iCells mb o) 188
 map : IMap 34 .u64 wr mb (fillK o.read off data (o.dom, o.f) k).1 (fun z => .int .u8 ((((fillK o.read off data (o.dom, o.f) k).2 z).toNat : Nat) : Int))
 mod : Mod (IS ib mb) w wr
 byts : Byts wr dv data
set_option maxHeartbeats 2000000 in
theorem iput_any {B : Nat} {w : World} {ib mb : Nat} {o : IB} {dv : Value} {data : List UInt8} (q : IBuf B w ib mb o) (hd : Byts w dv data) (off : Nat) (last : Bool) (hb : ((off + data.length : Nat) : Int) ≤ 4611686018427387903) :
  Calls Tryz.prog 195 #[.pointer (some ⟨ib, 0, none⟩), .int .u64 (off : Int), dv, .bool last] w fun e w' => PutR B w w' ib mb o off data last e := by
 obtain ⟨da, dc, rfl, hdc, hdm, -⟩ := Sl.val hd
 obtain ⟨E, hE⟩ : ∃ E, E = off + data.length := ⟨_, rfl⟩
 obtain ⟨PE, hPE⟩ : ∃ PE, PE = putErr o off data.length last := ⟨_, rfl⟩
 have HQ := Lib.hid q
 have HD := Lib.hid hd
 have HP9 : Hid (o.read + o.win < E → PE = 9 ∧ putI o off data last = o) := Lib.hid (fun h => by
  have e : putErr o off data.length last = 9 := by unfold putErr; rw [← hE, if_pos h]
  exact ⟨by rw [hPE, e], by unfold putI; rw [e, if_neg (by decide)]⟩)
 have HP10 : Hid (¬ o.read + o.win < E → badFin o E last = true → PE = 10 ∧ putI o off data last = o) := Lib.hid (fun h h2 => by
  have e : putErr o off data.length last = 10 := by unfold putErr; rw [← hE, if_neg h, if_pos h2]
  exact ⟨by rw [hPE, e], by unfold putI; rw [e, if_neg (by decide)]⟩)
 have HP0 : Hid (¬ o.read + o.win < E → badFin o E last = false → PE = 0 ∧ putI o off data last = { o with top := max o.top E, size := if last then E else o.size, known := o.known || last, dom := (fillK o.read off data (o.dom, o.f) data.length).1, f := (fillK o.read off data (o.dom, o.f) data.length).2 }) := Lib.hid (fun h h2 => by
  have e : putErr o off data.length last = 0 := by unfold putErr; rw [← hE, if_neg h, if_neg (by rw [h2]; simp)]
  exact ⟨by rw [hPE, e], by unfold putI; rw [e, if_pos rfl, hE]⟩)
 have hok := q.ok
 have HOK := Lib.hid (And.intro hok (And.intro hE (And.intro hb hdc)))
 unfold PutR
 rw [← hPE]
 have n0 : (0 : Int) ≤ (off : Int) := by omega
 have n1 : (data.length : Int) ≤ 4611686018427387903 := by omega
 have n2 : IntKind.u64.wrap (data.length : Int) = (data.length : Int) := IntWalk.u64_in _ (by omega)
 have n3 : IntKind.u64.wrap ((off : Int) + (data.length : Int)) = (E : Int) := by rw [IntWalk.u64_in _ (by omega)]; omega
 have n4 : decide ((4611686018427387903 : Int) < (off : Int)) = false := decide_eq_false (by omega)
 have n5 : decide ((4611686018427387903 : Int) < (E : Int)) = false := decide_eq_false (by omega)
 have HLim := Lib.hid (ilimit_any q)
 clear q hd hdc hdm hok hE hPE hb
 obtain ⟨L, hL⟩ : ∃ L, L = o.read + o.win := ⟨_, rfl⟩
 rw [← hL] at HLim HP9 HP10 HP0
 have HL := Lib.hid hL
 clear hL
 generalize hzE : (E : Int) = zE at *
 generalize hzL : (L : Int) = zL at *
 have HZ := Lib.hid (And.intro hzE hzL)
 clear hzE hzL
 generalize hdn : data.length = n at *
 have HDN := Lib.hid hdn
 clear hdn
 go_enter Tryz.func195, Tryz.ntmps195
 go_upto_block 0 with fail
 clear n2 n3
 go_cut [] (fun wx => Hid (Mod (fun _ => False) w wx ∧ ¬ L < E ∧ badFin o E last = false))
 case first =>
  by_cases hfl : L < E
  ·have t1 : decide (zL < zE) = true := decide_eq_true (by have := HZ.out; omega)
   have HF := Lib.hid hfl
   clear hfl
   go_wp2_with (first
    | (go_at_call 101; (with_reducible refine HLim.out.mono ?_); rintro e w1 ⟨rfl, hM1⟩; have HM1 := Lib.hid hM1; clear hM1)
    | fail)
   go_ret
   rw [(HP9.out HF.out).1, (HP9.out HF.out).2]
   exact ⟨rfl, HQ.out.still HM1.out, HM1.out.mono (fun _ _ h => h.elim)⟩
  ·have t1 : decide (zL < zE) = false := decide_eq_false (by have := HZ.out; omega)
   have HF := Lib.hid hfl
   clear hfl
   have HCE : Hid (∀ wx, Mod (fun _ => False) w wx → wx.cell? ⟨ib, 2, none⟩ = some (.int .u64 (o.top : Int)) ∧ wx.cell? ⟨ib, 3, none⟩ = some (.int .u64 (o.size : Int)) ∧ wx.cell? ⟨ib, 4, none⟩ = some (.bool o.known)) := Lib.hid (fun wx h => ⟨(HQ.out.still h).blk.cellAt 2 rfl, (HQ.out.still h).blk.cellAt 3 rfl, (HQ.out.still h).blk.cellAt 4 rfl⟩)
   have HBF : Hid (badFin o E last = ((o.known && (decide ((o.size : Int) < zE) || (last && (zE != (o.size : Int))))) || (last && decide (zE < (o.top : Int))))) := Lib.hid (by
    have a1 : decide ((o.size : Int) < (E : Int)) = decide (o.size < E) := by rw [Bool.eq_iff_iff]; simp
    have a2 : ((E : Int) != (o.size : Int)) = decide (E ≠ o.size) := by rw [Bool.eq_iff_iff]; simp; omega
    have a3 : decide ((E : Int) < (o.top : Int)) = decide (E < o.top) := by rw [Bool.eq_iff_iff]; simp
    rw [← HZ.out.1, a1, a2, a3]
    rfl)
   generalize o.known = kn at HCE HBF
   generalize (o.size : Int) = zs at HCE HBF
   generalize (o.top : Int) = zt at HCE HBF
   by_cases h1 : zs < zE
   ·have t2 : decide (zs < zE) = true := decide_eq_true h1
    rw [t2] at HBF
    clear h1
    by_cases h3 : zE < zt
    all_goals (
     first
      | (have t3 : decide (zE < zt) = true := decide_eq_true h3)
      | (have t3 : decide (zE < zt) = false := decide_eq_false h3)
     rw [t3] at HBF
     clear h3
     cases kn <;> cases last <;> (
      go_wp2_with (first
       | (go_at_call 101; (with_reducible refine HLim.out.mono ?_); rintro e w1 ⟨rfl, hM1⟩; have HM1 := Lib.hid hM1; obtain ⟨c2, c3, c4⟩ := HCE.out _ hM1; clear hM1)
       | fail)
      first
       | (go_ret; rw [(HP10.out HF.out (by rw [HBF.out]; rfl)).1, (HP10.out HF.out (by rw [HBF.out]; rfl)).2]; exact ⟨rfl, HQ.out.still HM1.out, HM1.out.mono (fun _ _ h => h.elim)⟩)
       | (go_meet; exact Lib.hid ⟨HM1.out, HF.out, by rw [HBF.out]; rfl⟩)))
   ·have t2 : decide (zs < zE) = false := decide_eq_false h1
    rw [t2] at HBF
    by_cases h3 : zE < zt
    all_goals (
     first
      | (have t3 : decide (zE < zt) = true := decide_eq_true h3)
      | (have t3 : decide (zE < zt) = false := decide_eq_false h3)
     rw [t3] at HBF
     clear h3
     by_cases h4 : zE = zs
     all_goals (
      first
       | (have t4 : (zE != zs) = false := by simpa using h4)
       | (have t4 : (zE != zs) = true := by simpa using h4)
      rw [t4] at HBF
      clear h4
      cases kn <;> cases last <;> (
       go_wp2_with (first
        | (go_at_call 101; (with_reducible refine HLim.out.mono ?_); rintro e w1 ⟨rfl, hM1⟩; have HM1 := Lib.hid hM1; obtain ⟨c2, c3, c4⟩ := HCE.out _ hM1; clear hM1)
        | fail)
       first
        | (go_ret; rw [(HP10.out HF.out (by rw [HBF.out]; rfl)).1, (HP10.out HF.out (by rw [HBF.out]; rfl)).2]; exact ⟨rfl, HQ.out.still HM1.out, HM1.out.mono (fun _ _ h => h.elim)⟩)
        | (go_meet; exact Lib.hid ⟨HM1.out, HF.out, by rw [HBF.out]; rfl⟩))))
 case rest =>
  have HC := hcut
  clear hcut
  have HFIN := Lib.hid (HP0.out HC.out.2.1 HC.out.2.2)
  have HQ1 := Lib.hid (HQ.out.still HC.out.1)
  have HBW : Hid (E ≤ o.read + o.win) := Lib.hid (by have := HC.out.2.1; have := HL.out; omega)
  go_wp2_with fail
  go_loopw [67] (fun i wr => ∃ k : Nat, k ≤ n ∧ i = .int .i64 (k : Int) ∧ Hid (PutL wc wr ib mb (.slice da n dc) o off data k)) (fun i _ => n - (intOf i).toNat)
  case atStart => exact ⟨0, Nat.zero_le _, rfl, Lib.hid ⟨HQ1.out.blk, HQ1.out.map, Mod.refl _ _, HD.out.kept HC.out.1 (fun _ _ h => h)⟩⟩
  case round =>
   obtain ⟨k, hk, rfl, HI⟩ := hrel
   have k0 : (0 : Int) ≤ (k : Int) := by omega
   have k1 : (k : Int) ≤ 4611686018427387903 := by omega
   by_cases hlt : k < n
   ·obtain ⟨x, hx⟩ : ∃ x, data[k]? = some x := ⟨_, List.getElem?_eq_getElem (by have := HDN.out; omega)⟩
    obtain ⟨-, a', cap', he, -, -, -, h5⟩ := HI.out.byts
    obtain ⟨b, offb, hp, hcell⟩ := h5 k (.int .u8 (x.toNat : Int)) (by rw [List.getElem?_map, hx]; rfl)
    simp only [Value.slice.injEq] at he
    obtain ⟨rfl, -, rfl⟩ := he
    subst hp
    have t1 : decide ((k : Int) < (n : Int)) = true := by simp; omega
    have t1' : decide (k < n) = true := by simp; omega
    have z1 : (k : Int) < (n : Int) := by omega
    have k2 : IntKind.u64.wrap (k : Int) = (k : Int) := IntWalk.u64_in _ (by omega)
    obtain ⟨A, hA⟩ : ∃ A, A = off + k := ⟨_, rfl⟩
    have k3 : IntKind.u64.wrap ((off : Int) + (k : Int)) = (A : Int) := by rw [IntWalk.u64_in _ (by have := HOK.out; omega)]; omega
    have k4 : (Lit.int .u64 (A : Int)).wf = true := u64_wf (by have := HOK.out; omega)
    have c5 : wr.cell? ⟨ib, 5, none⟩ = some (.map (some mb)) := HI.out.blk.cellAt 5 rfl
    have c1 : wr.cell? ⟨ib, 1, none⟩ = some (.int .u64 (o.read : Int)) := HI.out.blk.cellAt 1 rfl
    have hlk := HI.out.map.lookok (t := 186) (e := 5) Tryz.underlying34 k4 Tryz.underlying186 (zero_u8 _)
    have HSTEP : Hid (fillK o.read off data (o.dom, o.f) (k + 1) = stepI o.read A x (fillK o.read off data (o.dom, o.f) k)) := Lib.hid (by
     show (match data[k]? with | some c => stepI o.read (off + k) c (fillK o.read off data (o.dom, o.f) k) | none => fillK o.read off data (o.dom, o.f) k) = _
     rw [hx, hA])
    have HKN := Lib.hid (And.intro hlt hA)
    have HB1 : Hid ((fillK o.read off data (o.dom, o.f) k).1.length < maxLen) := Lib.hid (by
     have := nodup_range o.win (o.read : Int) _ HI.out.map.nodup (fun z hz => by
      rw [fillK_mem k (by have := HDN.out; omega)] at hz
      have hd2 := HQ1.out.doms z
      have := HBW.out
      have := HOK.out
      rcases hz with hz | hz
      ·have := hd2 hz; omega
      ·omega)
     have := HOK.out.1.1
     unfold maxLen
     omega)
    clear h5 hx hk hlt hA
    by_cases hin : (A : Int) ∈ (fillK o.read off data (o.dom, o.f) k).1
    ·rw [if_pos hin, decide_eq_true hin] at hlk
     have HS2 : Hid (fillK o.read off data (o.dom, o.f) (k + 1) = fillK o.read off data (o.dom, o.f) k) := Lib.hid (by rw [HSTEP.out]; unfold stepI; rw [if_pos (.inl hin)])
     clear hin
     generalize hV : (Value.int IntKind.u8 (((fillK o.read off data (o.dom, o.f) k).2 (A : Int)).toNat : Int)) = V at hlk
     clear hV
     generalize (x.toNat : Int) = zx at *
     go_wp2_with fail
     go_roundw
     case rel => exact ⟨k + 1, by have := HKN.out; omega, by go_num, Lib.hid ⟨HI.out.blk, by rw [HS2.out]; exact HI.out.map, HI.out.mod, HI.out.byts⟩⟩
     case measure => have := HKN.out; simp [intOf]; omega
    ·rw [if_neg hin, decide_eq_false hin] at hlk
     by_cases hr : A < o.read
     ·have t2 : decide ((o.read : Int) ≤ (A : Int)) = false := decide_eq_false (by omega)
      have t2' : decide (o.read ≤ A) = false := decide_eq_false (by omega)
      have HS2 : Hid (fillK o.read off data (o.dom, o.f) (k + 1) = fillK o.read off data (o.dom, o.f) k) := Lib.hid (by rw [HSTEP.out]; unfold stepI; rw [if_pos (.inr hr)])
      clear hin hr
      generalize (x.toNat : Int) = zx at *
      go_wp2_with fail
      go_roundw
      case rel => exact ⟨k + 1, by have := HKN.out; omega, by go_num, Lib.hid ⟨HI.out.blk, by rw [HS2.out]; exact HI.out.map, HI.out.mod, HI.out.byts⟩⟩
      case measure => have := HKN.out; simp [intOf]; omega
     ·have t2 : decide ((o.read : Int) ≤ (A : Int)) = true := decide_eq_true (by omega)
      have t2' : decide (o.read ≤ A) = true := decide_eq_true (by omega)
      obtain ⟨w2, hrun, hmap, hmod⟩ := HI.out.map.put (t := 186) (e := 5) Tryz.underlying34 (.int .u8 (x.toNat : Int)) k4 HB1.out Tryz.underlying186
      have HR := Lib.hid hrun
      have HNEW : Hid (PutL wc w2 ib mb (.slice (some ⟨b, offb, none⟩) n dc) o off data (k + 1)) := Lib.hid (by
       have hne : ib ≠ mb := (HI.out.map.ne HI.out.blk).symm
       refine ⟨hmod.blk HI.out.blk hne, ?_, HI.out.mod.trans (hmod.mono (fun j _ e => .inr e)), ?_⟩
       ·rw [HSTEP.out]
        unfold stepI
        rw [if_neg (by rintro (h | h); exact hin h; exact hr h)]
        dsimp only
        rw [putF_fill] at hmap
        unfold putD at hmap
        rw [if_neg hin] at hmap
        exact hmap
       ·exact hmod.sl HI.out.byts (byts_ne HI.out.map HI.out.byts))
      clear hin hr hrun hmap hmod
      generalize (x.toNat : Int) = zx at *
      go_wp2_with (first
       | ((with_reducible refine wpList_skipr ?_ (exec_iput (m := .tmp 98) (x := .tmp 99) (v := .tmp 100) ?_ ?_ ?_ ?_ HR.out) ?_); (iterate 5 exact rfl))
       | fail)
      go_roundw
      case rel => exact ⟨k + 1, by have := HKN.out; omega, by go_num, HNEW⟩
      case measure => have := HKN.out; simp [intOf]; omega
   ·obtain rfl : k = n := by omega
    have t1 : decide ((k : Int) < (k : Int)) = false := by simp
    have c2 : wr.cell? ⟨ib, 2, none⟩ = some (.int .u64 (o.top : Int)) := HI.out.blk.cellAt 2 rfl
    have f2 : wr.frozen? ⟨ib, 2, none⟩ = false := HI.out.blk.free 2
    have c3 : wr.cell? ⟨ib, 3, none⟩ = some (.int .u64 (o.size : Int)) := HI.out.blk.cellAt 3 rfl
    have f3 : wr.frozen? ⟨ib, 3, none⟩ = false := HI.out.blk.free 3
    have c4 : wr.cell? ⟨ib, 4, none⟩ = some (.bool o.known) := HI.out.blk.cellAt 4 rfl
    have f4 : wr.frozen? ⟨ib, 4, none⟩ = false := HI.out.blk.free 4
    have m1 : max (o.top : Int) zE = ((max o.top E : Nat) : Int) := by have := HZ.out.1; omega
    have HMX : Hid (∀ T, T = max o.top E → o.win ≤ 100000 ∧ o.read ≤ T ∧ T ≤ o.read + o.win ∧ T ≤ 4611686018427387904 ∧ o.top ≤ T ∧ E ≤ T) := Lib.hid (fun T hT => by have := HOK.out; have := HBW.out; omega)
    generalize hT : max o.top E = T at *
    have HT := Lib.hid (HMX.out T rfl)
    have HNE : Hid (ib ≠ mb) := Lib.hid (HI.out.map.ne HI.out.blk).symm
    have HDM : Hid (∀ z ∈ (fillK o.read off data (o.dom, o.f) k).1, (o.read : Int) ≤ z ∧ z < (T : Int)) := Lib.hid (fun z hz => by
     rw [fillK_mem k (by have := HDN.out; omega)] at hz
     have := HT.out
     have := HOK.out
     rcases hz with hz | hz
     ·have := HQ1.out.doms z hz; omega
     ·omega)
    have HQW := Lib.hid (And.intro HQ1.out.at0 HQ1.out.at1)
    have HB2 := Lib.hid (HI.out.blk.set 2 (.int .u64 (T : Int)))
    have HM2 := Lib.hid ((Mod.refl (fun j => j = ib) wr).setCell (p := ⟨ib, 2, none⟩) (fun _ => rfl) (.int .u64 (T : Int)))
    cases last with
    | false =>
     clear hk hlt c3 f3 c4 f4
     go_wp2_with fail
     go_ret
     rw [HFIN.out.1, HFIN.out.2]
     refine ⟨rfl, ⟨HQW.out.1, HQW.out.2, ?_, HI.out.map.kept HM2.out (fun e => HNE.out e.symm), HDM.out, ?_⟩, ?_⟩
     ·have := HB2.out
      simpa [iCells] using this
     ·have := HT.out
      have := HOK.out
      dsimp only
      exact ⟨by omega, by omega, by omega, by omega, by simp; omega⟩
     ·exact (HC.out.1.mono (fun _ _ h => h.elim)).trans (HI.out.mod.trans (HM2.out.mono (fun j _ e => .inl e)))
    | true =>
     have HB4 := Lib.hid ((HB2.out.set 3 (.int .u64 zE)).set 4 (.bool true))
     have HM4 := Lib.hid ((HM2.out.setCell (p := ⟨ib, 3, none⟩) (fun _ => rfl) (.int .u64 zE)).setCell (p := ⟨ib, 4, none⟩) (fun _ => rfl) (.bool true))
     clear hk hlt
     go_wp2_with fail
     go_ret
     rw [HFIN.out.1, HFIN.out.2]
     refine ⟨rfl, ⟨HQW.out.1, HQW.out.2, ?_, HI.out.map.kept HM4.out (fun e => HNE.out e.symm), HDM.out, ?_⟩, ?_⟩
     ·have := HB4.out
      simp [iCells] at this ⊢
      rw [HZ.out.1]
      exact this
     ·have := HT.out
      have := HOK.out
      dsimp only
      exact ⟨by omega, by omega, by omega, by omega, by simp; omega⟩
     ·exact (HC.out.1.mono (fun _ _ h => h.elim)).trans (HI.out.mod.trans (HM4.out.mono (fun j _ e => .inl e)))
end Go.Proofs.YtahgidkpjmecdaaGreatDoor
set_option maxRecDepth 100000
namespace Go.Proofs.YtahgidkpjmecdaaGreatDoor
open Go.RowKit
def RowStops (F : Fence) (n : Nat) (P : Program) (g : Nat) (lb : Array Value) (enc : Nat → Array Value) (R : Nat → World → Prop) (more : Nat → Prop) (w : World) : Prop :=
 ∀ (l : Nat) (J Jx : Nat → World → Prop) (W : World), Below w.heap.size w W → AbidesFrom W.heap.size J → AbidesFrom W.heap.size Jx → (∀ k W1, J k W1 → R k W1) →
  (∀ k W1, J k W1 → more k → YieldAt F (n - 1) P l (enc k) W1 fun e W' => (e = .returned (.bool true) ∧ J (k + 1) W') ∨ (e = .returned (.bool false) ∧ Jx k W')) →
  J 0 W → CallsIn F n P g (#[.func (.yield l) #[] #[]] ++ lb) W fun e W' => (∃ v, e = .returned v) ∧ ((∃ k, ¬ more k ∧ J k W') ∨ (∃ k, Jx k W'))
def rowPost (B : Nat) (I : Nat → World → Prop) (Ix : Code → Nat → World → Prop) (k : Nat) (W : World) : Exit → Act → World → Prop
 | .normal, _, W' => KeepsFrom B W W' ∧ I (k + 1) W'
 | .ret, _, W' => KeepsFrom B W W' ∧ Ix .ret k W'
 | .exit id, _, W' => KeepsFrom B W W' ∧ Ix (.exit id) k W'
 | .goto t, _, W' => KeepsFrom B W W' ∧ Ix (.goto t) k W'
 | .panic _, _, _ => False
 | .outgrown, _, _ => False
variable {F : Fence} {n : Nat} {P : Program}
theorem wpIn_rangeFunc_row {g : Operand} {ps : Array Tmp} {assign body : Code} {Q : Exit → Act → World → Prop} {a : Act} {w : World}
  (hro : F.round = none) (h1 : 1 ≤ n) {gf : Nat} {lb : Array Value} (hg : a.eval g = .func (.func gf) #[] lb) (hFg : F.fn gf) (eg : ∀ args w, (callFunc gf args).run P w = .ok (.enter gf args) w)
  {encs : Nat → Array Value} {R : Nat → World → Prop} {more : Nat → Prop} {w0 : World} (hseq : RowStops F (n - 1) P gf lb encs R more w0)
  (hb0 : Below w0.heap.size w0 w) (hps : ∀ x, (encs x).size = ps.size)
  (I : Nat → World → Prop) (Ix : Code → Nat → World → Prop) (hIR : ∀ k W, I k W → R k W) (hI : OwnFrom w.heap.size I) (hIx : ∀ c, OwnFrom w.heap.size (Ix c)) (h0 : I 0 w) (a₁ : Nat → Act)
  (hassign : ∀ (l : Nat) (x : Nat) (W : World) (K : Act → World → Prop), K (a₁ x) W →
   assign.wpIn (F.inRound l) (n - 1 - 1) P (Exit.then K (fun _ _ _ => False)) { tmps := (ps.zip (encs x)).foldl (fun t (p, v) => t.setIfInBounds p v) a.tmps, defers := [] } W)
  (hbody : ∀ (l : Nat) (k : Nat) (W : World), I k W → more k → body.wpIn (F.inRound l) (n - 1 - 1) P (rowPost w.heap.size I Ix k W) (a₁ k) W)
  (hdone : ∀ (D : Nat) (k : Nat) (W : World), w.heap.size ≤ D → ¬ more k → I k W → W.heap[D]? = some (.deferred (some [])) → Q .normal { a with defers := { target := .collected D, args := #[] } :: a.defers } W)
  (hstop : ∀ (D : Nat) (c : Code) (k : Nat) (W : World), w.heap.size ≤ D → Ix c k W → W.heap[D]? = some (.deferred (some [])) → c.wpIn F n P Q { a with defers := { target := .collected D, args := #[] } :: a.defers } W) :
  (Code.rangeFunc g ps assign body).wpIn F n P Q a w := by
 refine wpIn_rangeFunc ?_
 intro fn hfn
 rw [hro]
 obtain ⟨rec, hrec⟩ : ∃ rec : LoopState → Option Code → Loop, rec = fun st pe => { state := st, pending := pe, fn, tmps := a.tmps, params := ps, assign, body, defers := w.heap.size } := ⟨_, rfl⟩
 obtain ⟨W1, hW1⟩ : ∃ W1, (w.alloc (.deferred (some []))).alloc (.loop (rec .ready none)) = W1 := ⟨_, rfl⟩
 have hL1 : W1.heap[w.heap.size + 1]? = some (.loop (rec .ready none)) := by
  rw [← hW1]; have := World.alloc_heap_new (w.alloc (.deferred (some []))) (.loop (rec .ready none)); rwa [World.size_alloc] at this
 have hK1 : W1.heap[w.heap.size]? = some (.deferred (some [])) := by
  rw [← hW1]; exact (Below.heap_alloc _ _ _ (by simp)).trans (World.alloc_heap_new w _)
 have hI1 : I 0 W1 := by rw [← hW1]; exact hI.alloc _ (hI.alloc _ h0)
 have hb1 : Below w0.heap.size w0 W1 := by
  rw [← hW1]; exact hb0.trans ((((Below.refl _ w).alloc (Nat.le_refl _) _).alloc (by simp) _).mono hb0.size)
 refine ⟨w.heap.size + 1, [{ target := .collected w.heap.size, args := #[] }], W1, { target := .fn (.func gf) lb, args := #[.func (.yield (w.heap.size + 1)) #[] #[]] }, W1, gf,
  #[.func (.yield (w.heap.size + 1)) #[] #[]] ++ lb, W1, ?_, ?_, ?_, ?_, fun _ => h1, ?_⟩
 ·rw [← hW1, hrec]; exact run_enterLoop_outer _ _ _ _ _
 ·simp only [resolve, hg]
  simp [go_sem]
 ·intro f' hf'; simp [Target.leads] at hf'; subst hf'; exact hFg
 ·simp [invoke, go_sem, eg]
 ·
  have hnw : ∀ {A B : World} {row : Option Nat}, (∀ r, row = some r → W1.heap.size ≤ r ∧ ∃ o : Obj, A.heap[r]? = some o ∧ o.isWalk = true) → (∀ r, row = some r → w.heap.size ≤ r ∧ ∃ o : Obj, A.heap[r]? = some o ∧ o.isCells = false) :=
   fun hr r e => by obtain ⟨hB, o, ho, hw⟩ := hr r e; exact ⟨by rw [← hW1] at hB; simp at hB; omega, o, ho, Obj.not_cells_of_walk hw⟩
  refine (hseq (w.heap.size + 1)
   (fun pre W => I pre W ∧ W.heap[w.heap.size + 1]? = some (.loop (rec .ready none)) ∧ W.heap[w.heap.size]? = some (.deferred (some [])))
   (fun pre W => ∃ c, Ix c pre W ∧ W.heap[w.heap.size + 1]? = some (.loop (rec .done (some c))) ∧ W.heap[w.heap.size]? = some (.deferred (some [])))
   W1 hb1
   (fun s A B row hs hg' hr => ⟨hI s A B row hs.1 hg' (hnw (B := B) hr), (grownBy_keeps hg' (fun r e => (hr r e).2) hs.2.1 rfl).trans hs.2.1, (grownBy_keeps hg' (fun r e => (hr r e).2) hs.2.2 rfl).trans hs.2.2⟩)
   (fun s A B row hs hg' hr => by
    obtain ⟨c, hc, hl, hk⟩ := hs
    exact ⟨c, hIx c s A B row hc hg' (hnw (B := B) hr), (grownBy_keeps hg' (fun r e => (hr r e).2) hl rfl).trans hl, (grownBy_keeps hg' (fun r e => (hr r e).2) hk rfl).trans hk⟩)
   (fun k W h => hIR k W h.1) ?_ ⟨hI1, hL1, hK1⟩).mono ?_
  ·
   rintro x W ⟨hi, hl, hk⟩ hmore
   have hlt : w.heap.size + 1 < W.heap.size := (Array.getElem?_eq_some_iff.1 hl).1
   have hy := run_yield (P := P) (args := encs x) hl (by rw [hrec]; exact hps x)
   rw [hrec] at hy
   refine ⟨fn, _, assign, body, hy, roundIn_of_wpIn hfn (hassign _ x W _ ⟨_, run_beginRound hl (by rw [hrec]), ?_⟩)⟩
   have hl2 : (W.putObj (w.heap.size + 1) (.loop { rec .ready none with state := .busy })).heap[w.heap.size + 1]? = some (.loop { rec .ready none with state := .busy }) := World.putObj_heap_same hlt
   have hk2 : (W.putObj (w.heap.size + 1) (.loop { rec .ready none with state := .busy })).heap[w.heap.size]? = some (.deferred (some [])) := (World.putObj_heap_other (by omega)).trans hk
   refine wpIn_mono (hbody _ x _ (hI.putObj _ hi (by omega) hl rfl) hmore) ?_
   have fin : ∀ (jump : Option Code) (W3 : World), KeepsFrom w.heap.size (W.putObj (w.heap.size + 1) (.loop { rec .ready none with state := .busy })) W3 →
     (Instr.endRound (w.heap.size + 1) jump).run P W3 = .ok (.bool jump.isNone) (W3.putObj (w.heap.size + 1) (.loop (rec (if jump.isNone then .ready else .done) jump))) ∧
     W3.heap[w.heap.size + 1]? = some (.loop { rec .ready none with state := .busy }) ∧
     (W3.putObj (w.heap.size + 1) (.loop (rec (if jump.isNone then .ready else .done) jump))).heap[w.heap.size + 1]? = some (.loop (rec (if jump.isNone then .ready else .done) jump)) ∧
     (W3.putObj (w.heap.size + 1) (.loop (rec (if jump.isNone then .ready else .done) jump))).heap[w.heap.size]? = some (.deferred (some [])) := fun jump W3 hk3 => by
    have hl3 := hk3.same _ _ (by omega) hl2 rfl
    have := run_endRound (P := P) jump hl3
    rw [hrec] at this ⊢
    exact ⟨this, by rw [hrec] at hl3; exact hl3, World.putObj_heap_same (Array.getElem?_eq_some_iff.1 hl3).1, (World.putObj_heap_other (by omega)).trans (hk3.same _ _ (Nat.le_refl _) hk2 rfl)⟩
   rintro e a3 W3 hp
   cases e with
   | normal =>
    obtain ⟨hk3, hi3⟩ := hp
    obtain ⟨hr, hl3, hl4, hk4⟩ := fin none W3 hk3
    exact ⟨_, _, hr, .inl ⟨rfl, ⟨hI.putObj _ hi3 (by omega) hl3 rfl, hl4, hk4⟩⟩⟩
   | ret =>
    obtain ⟨hk3, hi3⟩ := hp
    obtain ⟨hr, hl3, hl4, hk4⟩ := fin (some .ret) W3 hk3
    exact ⟨_, _, hr, .inr ⟨rfl, .ret, (hIx _).putObj _ hi3 (by omega) hl3 rfl, hl4, hk4⟩⟩
   | exit id =>
    obtain ⟨hk3, hi3⟩ := hp
    obtain ⟨hr, hl3, hl4, hk4⟩ := fin (some (.exit id)) W3 hk3
    exact ⟨_, _, hr, .inr ⟨rfl, .exit id, (hIx _).putObj _ hi3 (by omega) hl3 rfl, hl4, hk4⟩⟩
   | goto t =>
    obtain ⟨hk3, hi3⟩ := hp
    obtain ⟨hr, hl3, hl4, hk4⟩ := fin (some (.goto t)) W3 hk3
    exact ⟨_, _, hr, .inr ⟨rfl, .goto t, (hIx _).putObj _ hi3 (by omega) hl3 rfl, hl4, hk4⟩⟩
   | panic ch => exact hp.elim
   | outgrown => exact hp.elim
  ·
   rintro e W2 ⟨⟨v, rfl⟩, (⟨xs, hS, hi, hl, hk⟩ | ⟨pre, c, hi, hl, hk⟩)⟩
   ·exact ⟨none, _, by have := run_endLoop (P := P) hl (by rw [hrec]; simp); rw [hrec] at this; exact this, hdone _ xs _ (Nat.le_refl _) hS (hI.putObj _ hi (by omega) hl rfl) ((World.putObj_heap_other (by omega)).trans hk)⟩
   ·exact ⟨some c, _, by have := run_endLoop (P := P) hl (by rw [hrec]; simp); rw [hrec] at this; exact this, hstop _ c pre _ (Nat.le_refl _) ((hIx c).putObj _ hi (by omega) hl rfl) ((World.putObj_heap_other (by omega)).trans hk)⟩
end Go.Proofs.YtahgidkpjmecdaaGreatDoor
set_option maxRecDepth 100000
namespace Go.Proofs.YtahgidkpjmecdaaGreatDoor
open Go.RowKit Go.Maps Go.Shelf
attribute [local go_sem] Oper.semAt_some
structure RowR (Bn ib mb : Nat) (o : IB) (k : Nat) (W : World) : Prop where
 box : W.cell? ⟨Bn, 0, none⟩ = some (.pointer (some ⟨ib, 0, none⟩))
 read : k = 0 → W.cell? ⟨ib, 1, none⟩ = some (.int .u64 (o.read : Int))
 mapc : W.cell? ⟨ib, 5, none⟩ = some (.map (some mb))
 map : ∃ dom, IMap 34 .u64 W mb dom (iF o) ∧ ∀ z : Int, (o.read : Int) + (k : Int) ≤ z → (z ∈ dom ↔ z ∈ o.dom)
def rowE (o : IB) (k : Nat) : Array Value := #[.int .u64 ((o.read + k : Nat) : Int), .int .u8 ((o.f ((o.read + k : Nat) : Int)).toNat : Int)]
def rowM (o : IB) (k : Nat) : Prop := ((o.read + k : Nat) : Int) ∈ o.dom
set_option maxHeartbeats 2000000 in
theorem row1_stops (F : Fence) (n : Nat) (hF : F.fn 222) (hro : F.round = none) (hn : 1 ≤ n) (Bn ib mb : Nat) (o : IB) (hd : ∀ z ∈ o.dom, z < (o.top : Int)) (ht : o.read ≤ o.top ∧ (o.top : Int) ≤ 4611686018427387904) (w : World) :
  RowStops F n Tryz.prog 222 #[.pointer (some ⟨Bn, 0, none⟩)] (rowE o) (RowR Bn ib mb o) (rowM o) w := by
 intro l J Jx W _ _ _ hJR hY h0
 have hR0 := hJR 0 W h0
 have c0 : W.cell? ⟨Bn, 0, none⟩ = some (.pointer (some ⟨ib, 0, none⟩)) := hR0.box
 have c1 : W.cell? ⟨ib, 1, none⟩ = some (.int .u64 (o.read : Int)) := hR0.read rfl
 have HT := Lib.hid ht
 have HD := Lib.hid hd
 have HJ := Lib.hid hJR
 have HY := Lib.hid hY
 have H0 := Lib.hid h0
 clear hR0 hd ht hJR hY h0
 refine callsIn_of_wp Tryz.func222 rfl hF ?_ hro
 simp only [Tryz.ntmps222, List.size_toArray, List.length_cons, List.length_nil, Nat.reduceAdd, Nat.reduceSub, Array.replicate_succ, Array.replicate_zero, List.push_toArray, List.append_toArray, List.nil_append, List.cons_append]
 gi_wp2
 gi_loopw [3] (fun p wr => ∃ k : Nat, p = .int .u64 ((o.read + k : Nat) : Int) ∧ o.read + k ≤ o.top ∧ Hid (J k wr)) (fun p _ => o.top - (intOf p).toNat)
 case atStart => exact ⟨0, rfl, by have := HT.out; omega, H0⟩
 case round =>
  obtain ⟨k, rfl, hk, HJk⟩ := hrel
  have HR := Lib.hid (HJ.out k wr HJk.out)
  have d0 : wr.cell? ⟨Bn, 0, none⟩ = some (.pointer (some ⟨ib, 0, none⟩)) := HR.out.box
  have d5 : wr.cell? ⟨ib, 5, none⟩ = some (.map (some mb)) := HR.out.mapc
  obtain ⟨dom, hmap, hmem⟩ := HR.out.map
  have hlk := hmap.lookok (z := ((o.read + k : Nat) : Int)) (t := 186) (e := 5) Tryz.underlying34 (u64_wf (by have := HT.out; omega)) Tryz.underlying186 (zero_u8 _)
  have hm := hmem ((o.read + k : Nat) : Int) (by omega)
  by_cases hmore : rowM o k
  ·have hin : ((o.read + k : Nat) : Int) ∈ dom := hm.2 hmore
   rw [if_pos hin, decide_eq_true hin] at hlk
   have hlt : o.read + k < o.top := by have := HD.out _ hmore; omega
   obtain ⟨fn, tmps, assign, body, hy, hRd⟩ := HY.out k wr HJk.out hmore
   have HLT := Lib.hid hlt
   unfold rowE at hy
   unfold iF at hlk
   (try dsimp only at hlk)
   have hw : IntKind.u64.wrap (((o.read + k : Nat) : Int) + 1) = ((o.read + (k + 1) : Nat) : Int) := by rw [IntWalk.u64_in _ (by have := HT.out; omega)]; omega
   have HW := Lib.hid hw
   clear hw hin hm hmem hmap hmore hlt hk
   generalize ((o.f ((o.read + k : Nat) : Int)).toNat : Int) = zf at *
   generalize hzk : ((o.read + k : Nat) : Int) = zk at *
   have HZ := Lib.hid hzk
   clear hzk
   gi_wp2
   refine hRd.mono ?_
   rintro e W3 (⟨rfl, hJ3⟩ | ⟨rfl, hJx3⟩)
   ·have HJ3 := Lib.hid hJ3
    clear hJ3
    gi_wp2
    go_roundw
    case rel => exact ⟨k + 1, by rw [HW.out], by have := HLT.out; omega, HJ3⟩
    case measure =>
     rw [HW.out]
     have := HLT.out
     have := HZ.out
     simp only [intOf]
     omega
   ·gi_wp2
    refine bodyPost_ret (results_none rfl _ _ _) rfl ?_
    exact ⟨⟨_, rfl⟩, .inr ⟨k, hJx3⟩⟩
  ·have hin : ¬ ((o.read + k : Nat) : Int) ∈ dom := fun h => hmore (hm.1 h)
   rw [if_neg hin, decide_eq_false hin] at hlk
   have HN := Lib.hid hmore
   clear hin hm hmem hmap hmore hk
   generalize ((o.read + k : Nat) : Int) = zk at *
   gi_wp2
   refine ⟨fun _ h => (by cases h), ?_⟩
   gi_wp2
   refine bodyPost_ret (results_none rfl _ _ _) rfl ?_
   exact ⟨⟨_, rfl⟩, .inl ⟨k, HN.out, HJk.out⟩⟩
end Go.Proofs.YtahgidkpjmecdaaGreatDoor
namespace Go.Proofs
open Go.Shelf
shelf_try shelf_lay Lays.n187 Nm 187 at Tryz as Tryz.lays187
shelf_tried
end Go.Proofs
set_option maxRecDepth 100000
namespace Go.Proofs.YtahgidkpjmecdaaGreatDoor
open Go.RowKit
theorem bytesOf_back (l : List UInt8) : Lib.bytesOf (l.map fun b => (b.toNat : Int)) = l := by
 unfold Lib.bytesOf
 rw [List.map_map]
 conv => rhs; rw [← List.map_id l]
 apply List.map_congr_left
 intro b _
 simp
theorem idx_any {w : World} {v : Value} {l : List UInt8} (h : Byts w v l) (c : UInt8) :
  Calls Tryz.prog 190 #[v, .int .u8 (c.toNat : Int)] w fun e w' => w = w' ∧ e = .returned (.int .i64 (Lib.indexByte l c)) := by
 obtain ⟨hl, a, cap, rfl, h2, h3, h4, h5⟩ := h
 have hc : ((c.toNat : Int)).toNat.toUInt8 = c := by simp
 cases a with
 | none =>
  obtain rfl := h4 rfl
  have hl0 : l.length = 0 := by omega
  obtain rfl : l = [] := List.eq_nil_of_length_eq_zero hl0
  exact (Any.bytes_IndexByte_nil Tryz.lays187 (c.toNat : Int) w).mono fun e w' ⟨h1, h2⟩ => ⟨h2.symm, h1⟩
 | some p =>
  refine (Any.bytes_IndexByte_at Tryz.lays187 p l.length cap (l.map fun b => (b.toNat : Int)) (c.toNat : Int) w (by simp) (fun i hi => ?_)).mono fun e w' ⟨h1, h2⟩ => ⟨h2.symm, ?_⟩
  ·have hu : (l.map bv)[i]? = some (bv l[i]) := by simp [hi]
   obtain ⟨b, off, he, hcell⟩ := h5 i _ hu
   simp only [Option.some.injEq] at he
   subst he
   rw [Addr.add_lit, hcell]
   simp [bv, hi]
  ·rw [h1, bytesOf_back, hc]
def sentO (o : OB) : Nat := if Lib.indexByte o.s 0 < 0 then o.s.length else (Lib.indexByte o.s 0).toNat
theorem idx0_any {w : World} {v : Value} {l : List UInt8} (h : Byts w v l) : Calls Tryz.prog 190 #[v, .int .u8 0] w fun e w' => w = w' ∧ e = .returned (.int .i64 (Lib.indexByte l 0)) := idx_any h 0
theorem idx_range {l : List UInt8} {c : UInt8} : Lib.indexByte l c = -1 ∨ ∃ k : Nat, Lib.indexByte l c = (k : Int) ∧ k < l.length := by
 by_cases h : Lib.indexByte l c = -1
 ·exact .inl h
 ·have h1 := Lib.indexByte_ge l c
  obtain ⟨k, hk⟩ := Int.eq_ofNat_of_zero_le (by omega : 0 ≤ Lib.indexByte l c)
  exact .inr ⟨k, hk, (List.getElem?_eq_some_iff.1 (Lib.indexByte_some hk).1).1⟩
theorem osent_any {B : Nat} {w : World} {ob : Nat} {bv sv : Value} {o : OB} (q : OBuf B w ob bv sv o) :
  Calls Tryz.prog 100 #[.pointer (some ⟨ob, 0, none⟩)] w fun e w' => w = w' ∧ e = .returned (.int .u64 (sentO o : Nat)) := by
 obtain ⟨a, cap, rfl, -⟩ := Sl.val q.s.byts
 have c1 : w.cell? ⟨ob, 1, none⟩ = some (.slice a o.s.length cap) := q.blk.cellAt 1 rfl
 have HS := Lib.hid q.s.byts
 have hm : o.s.length ≤ 2000 := by rw [q.len]; exact q.most
 obtain ⟨R, hR⟩ : ∃ R, R = sentO o := ⟨_, rfl⟩
 rw [← hR]
 unfold sentO at hR
 clear q
 rcases idx_range (l := o.s) (c := 0) with h | ⟨k, h, hk⟩
 ·rw [if_pos (by omega)] at hR
  have HR := Lib.hid hR
  have HX := Lib.hid h
  have n0 : (o.s.length : Int) ≤ 2000 := by omega
  have h1 : IntKind.u64.wrap (o.s.length : Int) = (o.s.length : Int) := IntWalk.u64_in _ (by omega)
  clear h hR
  go_enter Tryz.func100, Tryz.ntmps100
  go_wp2_with (first | (go_at_call 190; (with_reducible refine (idx0_any HS.out).mono ?_); rintro e w1 ⟨rfl, rfl⟩; rw [HX.out]) | fail)
  go_ret
  exact ⟨rfl, by rw [HR.out]; rfl⟩
 ·rw [if_neg (by omega)] at hR
  have HR : Hid (R = k) := Lib.hid (by rw [hR, h]; rfl)
  have HX := Lib.hid h
  have k0 : (0 : Int) ≤ (k : Int) := by omega
  have k1 : (k : Int) ≤ 2000 := by omega
  have h1 : IntKind.u64.wrap (k : Int) = (k : Int) := IntWalk.u64_in _ (by omega)
  clear h hR hk
  go_enter Tryz.func100, Tryz.ntmps100
  go_wp2_with (first | (go_at_call 190; (with_reducible refine (idx0_any HS.out).mono ?_); rintro e w1 ⟨rfl, rfl⟩; rw [HX.out]) | fail)
  go_ret
  exact ⟨rfl, by rw [HR.out]; rfl⟩
def openO (o : OB) : Nat := min o.s.length o.lim
theorem oopen_any {B : Nat} {w : World} {ob : Nat} {bv sv : Value} {o : OB} (q : OBuf B w ob bv sv o) :
  Calls Tryz.prog 218 #[.pointer (some ⟨ob, 0, none⟩)] w fun e w' => e = .returned (.int .i64 (openO o : Nat)) ∧ Mod (fun _ => False) w w' := by
 obtain ⟨a, cap, rfl, -⟩ := Sl.val q.s.byts
 have HM : Hid (Mod (fun _ => False) w w.drew) := Lib.hid (Mod.refl _ _).drew
 have d1 : w.drew.cell? ⟨ob, 1, none⟩ = some (.slice a o.s.length cap) := HM.out.cellAt (q.blk.cellAt 1 rfl) (fun e => e)
 have d4 : w.drew.cell? ⟨ob, 4, none⟩ = some (.int .u64 (o.lim : Int)) := HM.out.cellAt (q.blk.cellAt 4 rfl) (fun e => e)
 have hm : o.s.length ≤ 2000 := by rw [q.len]; exact q.most
 have n0 : (o.s.length : Int) ≤ 2000 := by omega
 have h1 : IntKind.u64.wrap (o.s.length : Int) = (o.s.length : Int) := IntWalk.u64_in _ (by omega)
 have h2 : min (o.s.length : Int) (o.lim : Int) = ((openO o : Nat) : Int) := by unfold openO; omega
 have h3 : IntKind.i64.wrap ((openO o : Nat) : Int) = ((openO o : Nat) : Int) := IntWalk.i64_in _ (by unfold openO; omega)
 have H123 := Lib.hid (And.intro h1 (And.intro h2 h3))
 clear q hm h1 h2 h3
 generalize openO o = R at *
 generalize o.lim = l at *
 generalize o.s.length = n at *
 go_enter Tryz.func218, Tryz.ntmps218
 go_upto_region 1 with fail
 refine wp_region_held_drew (S := fun X => w.drew = X) (by kernel_rfl) rfl (fun hS => ?_)
 generalize w.drew = Y at *
 refine' tk 0 _ (some 3) rfl rfl (by kernel_rfl) (fun _ _ _ => id) (Or.inl ⟨by rfl, fun X hX => ?_⟩) hS ?_; rotate_left
 ·go_simp; exact rfl
 (try go_frame); refine' tk 1 _ (some 4) rfl rfl (by kernel_rfl) (fun _ _ _ => id) (Or.inl ⟨by rfl, fun X hX => ?_⟩) hS ?_; rotate_left
 ·go_simp; exact rfl
 (try go_frame); refine' tk 2 _ (some 5) rfl rfl (by kernel_rfl) (fun _ _ _ => id) (Or.inl ⟨by rfl, fun X hX => ?_⟩) hS ?_; rotate_left
 ·go_simp; exact rfl
 (try go_frame); refine' tk 3 _ (some 6) rfl rfl (by kernel_rfl) (fun _ _ _ => id) (Or.inl ⟨by rfl, fun X hX => ?_⟩) hS ?_; rotate_left
 ·have hX := (show Y = X from hX); subst hX; go_simp; exact rfl
 (try go_frame); refine' tk 4 _ (some 7) rfl rfl (by kernel_rfl) (fun _ _ _ => id) (Or.inl ⟨by rfl, fun X hX => ?_⟩) hS ?_; rotate_left
 ·go_simp; exact rfl
 (try go_frame); refine tk 5 (.int .u64 n) (some 8) rfl rfl (by kernel_rfl) (fun _ _ _ => id) (Or.inl ⟨by rfl, fun X hX => ?_⟩) hS ?_
 ·go_simp; first | done | rw [H123.out.1]
 (try go_frame); refine' tk 6 _ (some 9) rfl rfl (by kernel_rfl) (fun _ _ _ => id) (Or.inl ⟨by rfl, fun X hX => ?_⟩) hS ?_; rotate_left
 ·go_simp; exact rfl
 (try go_frame); refine' tk 7 _ (some 10) rfl rfl (by kernel_rfl) (fun _ _ _ => id) (Or.inl ⟨by rfl, fun X hX => ?_⟩) hS ?_; rotate_left
 ·go_simp; exact rfl
 (try go_frame); refine' tk 8 _ (some 11) rfl rfl (by kernel_rfl) (fun _ _ _ => id) (Or.inl ⟨by rfl, fun X hX => ?_⟩) hS ?_; rotate_left
 ·go_simp; exact rfl
 (try go_frame); refine' tk 9 _ (some 12) rfl rfl (by kernel_rfl) (fun _ _ _ => id) (Or.inl ⟨by rfl, fun X hX => ?_⟩) hS ?_; rotate_left
 ·have hX := (show Y = X from hX); subst hX; go_simp; exact rfl
 (try go_frame); refine wpAnyH_ready (rs := [10]) (by kernel_rfl) (by simp) ?_
 refine arH (o := ⟨some 13, _, _, _, _, none⟩) rfl fun K hK => ?_
 go_simp
 refine hK.out _ _ rfl (fun hS => ?_)
 clear hK K
 rw [H123.out.2.1]
 (try go_frame); refine tk 11 (.int .i64 R) (some 14) rfl rfl (by kernel_rfl) (fun _ _ _ => id) (Or.inl ⟨by rfl, fun X hX => ?_⟩) hS ?_
 ·go_simp; first | done | rw [H123.out.2.2]
 (try go_frame); refine' tk 12 _ (some 2) rfl rfl (by kernel_rfl) (fun _ _ _ => id) (Or.inl ⟨by rfl, fun X hX => ?_⟩) hS ?_; rotate_left
 ·go_simp; exact rfl
 (try go_frame); refine wpAnyH_done (by kernel_rfl) ?_ _
 go_wp2_with fail
 go_ret
 exact ⟨rfl, HM.out⟩
def mapR (f : UInt8 → UInt8) (a t : Nat) (s : List UInt8) : List UInt8 := s.mapIdx (fun i x => if a ≤ i ∧ i < t then f x else x)
@[simp] theorem mapR_len (f : UInt8 → UInt8) (a t : Nat) (s : List UInt8) : (mapR f a t s).length = s.length := by simp [mapR]
theorem mapR_get (f : UInt8 → UInt8) (a t : Nat) (s : List UInt8) (i : Nat) : (mapR f a t s)[i]? = s[i]?.map (fun x => if a ≤ i ∧ i < t then f x else x) := by simp [mapR]
theorem mapR_nil (f : UInt8 → UInt8) (a t : Nat) (s : List UInt8) (h : t ≤ a) : mapR f a t s = s := by
 apply List.ext_getElem?
 intro i
 rw [mapR_get]
 cases s[i]? with
 | none => rfl
 | some x => rw [Option.map_some, if_neg (by omega)]
theorem mapR_step (f : UInt8 → UInt8) (a i : Nat) (s : List UInt8) (x : UInt8) (ha : a ≤ i) (hx : s[i]? = some x) : mapR f a (i + 1) s = (mapR f a i s).set i (f x) := by
 apply List.ext_getElem?
 intro j
 rw [mapR_get]
 by_cases e : i = j
 ·subst e
  rw [List.getElem?_set_self (by rw [mapR_len]; exact (List.getElem?_eq_some_iff.1 hx).1), hx, Option.map_some, if_pos ⟨ha, by omega⟩]
 ·rw [List.getElem?_set_ne e, mapR_get]
  cases s[j]? with
  | none => rfl
  | some y =>
   rw [Option.map_some, Option.map_some]
   by_cases h : a ≤ j ∧ j < i
   ·rw [if_pos h, if_pos ⟨h.1, by omega⟩]
   ·rw [if_neg h, if_neg (by omega)]
theorem mapR_at (f : UInt8 → UInt8) (a i : Nat) (s : List UInt8) : (mapR f a i s)[i]? = s[i]? := by
 rw [mapR_get]
 cases s[i]? with
 | none => rfl
 | some y => rw [Option.map_some, if_neg (by omega)]
theorem tw_lt (p : UInt8 → Bool) : ∀ (l : List UInt8) (j : Nat), j ≤ (l.takeWhile p).length → (j < (l.takeWhile p).length ↔ ∃ x, l[j]? = some x ∧ p x = true)
 | [], j, h => by simp
 | y :: l, j, h => by
  by_cases hp : p y = true
  ·rw [List.takeWhile_cons_of_pos hp] at h ⊢
   cases j with
   | zero => simp [hp]
   | succ j =>
    have := tw_lt p l j (by simpa using h)
    simpa using this
  ·rw [List.takeWhile_cons_of_neg hp] at h ⊢
   have : j = 0 := by simpa using h
   subst this
   simp [hp]
def runL (s : List UInt8) (st : UInt8) (top many k : Nat) : Nat := min many (((s.take top).drop k).takeWhile (· == st)).length
theorem runL_more {s : List UInt8} {st : UInt8} {top many k j : Nat} (h : j ≤ runL s st top many k) :
  j < runL s st top many k ↔ k + j < top ∧ j < many ∧ s[k + j]? = some st := by
 have := tw_lt (· == st) ((s.take top).drop k) j (by unfold runL at h; omega)
 unfold runL at *
 have e : ((s.take top).drop k)[j]? = if k + j < top then s[k + j]? else none := by
  rw [List.getElem?_drop, List.getElem?_take]
 rw [e] at this
 constructor
 ·intro hj
  obtain ⟨x, hx, hp⟩ := this.1 (by omega)
  by_cases h1 : k + j < top
  ·rw [if_pos h1] at hx
   simp at hp
   subst hp
   exact ⟨h1, by omega, hx⟩
  ·rw [if_neg h1] at hx
   cases hx
 ·rintro ⟨h1, h2, h3⟩
  have := this.2 ⟨st, by rw [if_pos h1]; exact h3, by simp⟩
  omega
theorem runL_top {s : List UInt8} {st : UInt8} {top many k : Nat} (hk : k ≤ top) (ht : top ≤ s.length) : k + runL s st top many k ≤ top := by
 unfold runL
 have := (List.takeWhile_prefix (· == st) (l := (s.take top).drop k)).length_le
 simp at this
 omega
def runO (s : List UInt8) (st : UInt8) (top many : Nat) : Option (Nat × Nat) :=
 if Lib.indexByte (s.take top) st < 0 then none
 else some ((Lib.indexByte (s.take top) st).toNat, (Lib.indexByte (s.take top) st).toNat + runL s st top many (Lib.indexByte (s.take top) st).toNat)
def openE (o : OB) : Bool := o.fin && (o.e == 0 || o.e == 2)
def openN (o : OB) : Nat := min o.s.length o.lim
structure Due where
 a : Nat
 t : Nat
 e : Bool
 ok : Bool
def dueO (o : OB) (many : Nat) : Due :=
 match runO o.s 2 o.s.length many with
 | some p => ⟨p.1, p.2, openE o && decide (p.2 = o.s.length), true⟩
 | none =>
  match runO o.s 0 (openN o) many with
  | some p => ⟨p.1, p.2, openE o && decide (p.2 = o.s.length), true⟩
  | none => if openE o && decide (Lib.indexByte o.s 0 < 0) then ⟨o.s.length, o.s.length, true, true⟩ else ⟨0, 0, false, false⟩
def nextO (o : OB) (many : Nat) : OB := { o with s := mapR (fun _ => 1) (dueO o many).a (dueO o many).t o.s, e := if (dueO o many).e then 1 else o.e }
def nextB (o : OB) (many : Nat) : List UInt8 := (o.b.take (dueO o many).t).drop (dueO o many).a
theorem runO_le {s : List UInt8} {st : UInt8} {top many : Nat} {p : Nat × Nat} (h : runO s st top many = some p) (ht : top ≤ s.length) : p.1 ≤ p.2 ∧ p.2 ≤ top := by
 unfold runO at h
 split at h
 ·cases h
 ·rename_i hn
  cases h
  obtain ⟨k, hk⟩ := Int.eq_ofNat_of_zero_le (by omega : 0 ≤ Lib.indexByte (s.take top) st)
  rw [hk]
  have hlt := (List.getElem?_eq_some_iff.1 (Lib.indexByte_some hk).1).1
  have := runL_top (s := s) (st := st) (many := many) (k := k) (top := top) (by simp at hlt; omega) ht
  exact ⟨by simp, by simpa using this⟩
theorem dueO_le (o : OB) (many : Nat) : (dueO o many).a ≤ (dueO o many).t ∧ (dueO o many).t ≤ o.s.length := by
 unfold dueO
 split
 ·rename_i p h
  exact runO_le h (Nat.le_refl _)
 ·split
  ·rename_i p h
   have := runO_le h (by unfold openN; omega)
   exact ⟨this.1, Nat.le_trans this.2 (by unfold openN; omega)⟩
  ·split <;> simp
def turnO (f : UInt8 → UInt8) (off n : Nat) (e : Bool) (o : OB) : OB :=
 { o with s := mapR f (min off o.s.length) (min off o.s.length + n) o.s, e := if e && o.fin then f o.e else o.e }
def ackF (x : UInt8) : UInt8 := if x = 0 then 0 else 3
def writeN (o : OB) (data : List UInt8) : Nat := if o.fin then 0 else min data.length (2000 - o.b.length)
def writeO (o : OB) (data : List UInt8) : OB := if o.fin then o else { o with b := o.b ++ data.take (writeN o data), s := o.s ++ List.replicate (writeN o data) 0 }
theorem wp_scope_once {P : Program} {Q : Exit → Act → World → Prop} {a : Act} {w : World} {c rest : Code} (l : Nat) (J : Act → World → Prop) (μ : Act → World → Nat) (hf : findLabel c l = some (Code.skip.seq rest))
  (first : (∀ a w, J a w → rest.wp P (Exit.jump l J Q) a w) → c.wp P (Exit.jump l J Q) a w)
  (pass : ∀ a w, J a w → rest.wp P (Exit.jump l (fun a' w' => J a' w' ∧ μ a' w' < μ a w) Q) a w) : (Code.scope c).wp P Q a w :=
 wp_scope_jumps l J μ hf (first (fun a w hJ => wp_mono (pass a w hJ) (fun e a' w' h => by
  cases e with
  | goto l' => exact ⟨h.1, h.2.1⟩
  | normal => exact h
  | exit id => exact h
  | ret => exact h
  | panic ch => exact h
  | outgrown => exact h))) (fun a w hJ => wp_seq (wp_skip (pass a w hJ)))
theorem byts_takeO {w : World} {a : Option Addr} {n cap top : Nat} {l : List UInt8} (h : Byts w (.slice a n cap) l) (ht : top ≤ l.length) : Byts w (.slice a top cap) (l.take top) := by
 obtain ⟨h1, a', cap', he, h2, h3, h4, h5⟩ := h
 simp only [Value.slice.injEq] at he
 obtain ⟨rfl, rfl, rfl⟩ := he
 have e : (l.take top).length = top := by simp; omega
 refine ⟨by simp, a, cap, by rw [e], by rw [e]; omega, h3, h4, fun j u hu => ?_⟩
 have hj : j < top := by
  rw [List.getElem?_map] at hu
  rcases Nat.lt_or_ge j top with h | h
  ·exact h
  ·rw [List.getElem?_eq_none (by rw [e]; exact h)] at hu
   cases hu
 refine h5 j u ?_
 rw [List.getElem?_map, List.getElem?_take, if_pos hj] at hu
 rw [List.getElem?_map]
 exact hu
theorem orun_none {B : Nat} {w : World} {ob : Nat} {bv sv : Value} {o : OB} (q : OBuf B w ob bv sv o) (st : UInt8) (z : Int) (hz : (st.toNat : Int) = z) (top many : Nat) (ht : top ≤ o.s.length) (h : runO o.s st top many = none) :
  Calls Tryz.prog 217 #[.pointer (some ⟨ob, 0, none⟩), .int .u8 z, .int .i64 (top : Int), .int .i64 (many : Int)] w fun e w' => w = w' ∧ e = .returned (.tuple #[.int .i64 0, .int .i64 0, .bool false]) := by
 obtain ⟨a, cap, rfl, hcap, hcm, -⟩ := Sl.val q.s.byts
 have c1 : w.cell? ⟨ob, 1, none⟩ = some (.slice a o.s.length cap) := q.blk.cellAt 1 rfl
 have HS := Lib.hid (byts_takeO q.s.byts ht)
 subst hz
 have HX := Lib.hid (idx_any HS.out st)
 unfold maxLen at hcm
 have hx : Lib.indexByte (o.s.take top) st < 0 := by
  unfold runO at h
  split at h
  ·assumption
  ·cases h
 have hge := Lib.indexByte_ge (o.s.take top) st
 have n1 : (0 : Int) ≤ (top : Int) := by omega
 have n2 : top ≤ cap := by omega
 have hxe : Lib.indexByte (o.s.take top) st = -1 := by omega
 rw [hxe] at HX
 clear q h HS hge hx hxe
 generalize o.s.length = n at *
 go_enter Tryz.func217, Tryz.ntmps217
 go_wp2_with fail
 refine wp_scope_once 0 (fun _ _ => False) (fun _ _ => 0) rfl ?_ (fun _ _ h => h.elim)
 intro hpass
 clear hpass
 go_wp2_with (first | (go_at_call 190; (with_reducible refine HX.out.mono ?_); rintro e w1 ⟨rfl, rfl⟩) | fail)
 simp only [Exit.jump]
 go_ret3
 exact ⟨rfl, rfl⟩
theorem orun_some {B : Nat} {w : World} {ob : Nat} {bv sv : Value} {o : OB} (q : OBuf B w ob bv sv o) (st : UInt8) (z : Int) (hz : (st.toNat : Int) = z) (top many k t : Nat) (ht : top ≤ o.s.length) (h : runO o.s st top many = some (k, t)) (hm : (many : Int) ≤ 9223372036854775807) :
  Calls Tryz.prog 217 #[.pointer (some ⟨ob, 0, none⟩), .int .u8 z, .int .i64 (top : Int), .int .i64 (many : Int)] w fun e w' => w = w' ∧ e = .returned (.tuple #[.int .i64 (k : Int), .int .i64 (t : Int), .bool true]) := by
 obtain ⟨a, cap, rfl, hcap, hcm, -⟩ := Sl.val q.s.byts
 have c1 : w.cell? ⟨ob, 1, none⟩ = some (.slice a o.s.length cap) := q.blk.cellAt 1 rfl
 have HS := Lib.hid (byts_takeO q.s.byts ht)
 subst hz
 have HX := Lib.hid (idx_any HS.out st)
 unfold maxLen at hcm
 obtain ⟨hxe, hte⟩ : Lib.indexByte (o.s.take top) st = (k : Int) ∧ t = k + runL o.s st top many k := by
  unfold runO at h
  split at h
  ·cases h
  ·rename_i hn
   simp only [Option.some.injEq, Prod.mk.injEq] at h
   have e := Int.toNat_of_nonneg (by omega : 0 ≤ Lib.indexByte (o.s.take top) st)
   obtain ⟨h1, h2⟩ := h
   rw [h1] at h2 e
   exact ⟨e.symm, h2.symm⟩
 have hkt := runO_le h ht
 have hlen : o.s.length ≤ 2000 := by rw [q.len]; exact q.most
 rw [hxe] at HX
 have HR : Hid (∀ i, k ≤ i → i ≤ t → (i < t ↔ i < top ∧ i - k < many ∧ o.s[i]? = some st)) := Lib.hid (by
  intro i h1 h2
  have := runL_more (s := o.s) (st := st) (top := top) (many := many) (k := k) (j := i - k) (by omega)
  rw [show k + (i - k) = i by omega] at this
  rw [← this]
  omega)
 have HC : Hid (∀ i x, o.s[i]? = some x → ∃ b, a = some ⟨b, 0, none⟩ ∧ w.cell? ⟨b, i, none⟩ = some (.int .u8 (x.toNat : Int))) := Lib.hid (by
  intro i x hx
  rcases q.s.2 with ⟨he, hn⟩ | ⟨g, cap', cur, he, _⟩
  ·have := (List.getElem?_eq_some_iff.1 hx).1
   omega
  ·have he' := he
   simp only [Value.slice.injEq] at he'
   obtain ⟨rfl, -, rfl⟩ := he'
   refine ⟨g, rfl, ?_⟩
   have := World.ownsRow.cells q.s (g := g) rfl i (Value.int .u8 (x.toNat : Int)) (by rw [List.getElem?_map, hx]; rfl)
   rw [Addr.add_lit, Nat.zero_add] at this
   exact this)
 have HK := Lib.hid (And.intro hkt (And.intro hlen (And.intro ht hm)))
 have n1 : (0 : Int) ≤ (top : Int) := by omega
 have n2 : top ≤ cap := by omega
 have n3 : (0 : Int) ≤ (k : Int) := by omega
 have n4 : (top : Int) ≤ 2000 := by omega
 have n5 : (k : Int) ≤ 2000 := by omega
 have n6 : (o.s.length : Int) ≤ 2000 := by omega
 clear q h HS hxe hte hkt hlen ht hm
 generalize hst : (st.toNat : Int) = z at *
 have HST := Lib.hid hst
 clear hst
 generalize hL : o.s.length = n at *
 have HL := Lib.hid hL
 clear hL
 go_enter Tryz.func217, Tryz.ntmps217
 go_wp2_with fail
 refine wp_scope_once 0 (fun a' wr => w = wr ∧ ∃ (i : Nat) (u13 u14 u15 u16 u17 u18 u19 u20 u21 u22 u23 u24 u25 u26 u27 u28 u29 u30 u31 u32 u33 u34 u35 u36 u37 u38 u39 u40 u41 u42 u43 u44 u45 u46 u47 u48 : Value), (k ≤ i ∧ i ≤ t) ∧ a' = { tmps := #[.pointer (some ⟨ob, 0, none⟩), .int .u8 z, .int .i64 (top : Int), .int .i64 (many : Int), undef, undef, undef, undef, .int .i64 0, .int .i64 0, .bool false, .int .i64 (k : Int), .int .i64 (i : Int), u13, u14, u15, u16, u17, u18, u19, u20, u21, u22, u23, u24, u25, u26, u27, u28, u29, u30, u31, u32, u33, u34, u35, u36, u37, u38, u39, u40, u41, u42, u43, u44, u45, u46, u47, u48], defers := [] })
  (fun a' _ => (match a'.tmps.getD 12 undef with | .int _ z => 2000 - z.toNat | _ => 0)) rfl ?_ ?_
 ·intro hpass
  go_wp2_with (first | (go_at_call 190; (with_reducible refine HX.out.mono ?_); rintro e w1 ⟨rfl, rfl⟩) | fail)
  go_step3
  rename_i hK
  exact hK _ _ (hpass _ _ ⟨rfl, k, _, _, _, _, _, _, _, _, _, _, _, _, _, _, _, _, _, _, _, _, _, _, _, _, _, _, _, _, _, _, _, _, _, _, _, _, ⟨Nat.le_refl _, HK.out.1.1⟩, rfl⟩)
 ·rintro a' wr ⟨rfl, i, u13, u14, u15, u16, u17, u18, u19, u20, u21, u22, u23, u24, u25, u26, u27, u28, u29, u30, u31, u32, u33, u34, u35, u36, u37, u38, u39, u40, u41, u42, u43, u44, u45, u46, u47, u48, HI, rfl⟩
  have hR := HR.out i HI.1 HI.2
  have m0 : (0 : Int) ≤ (i : Int) := by omega
  have m1 : (i : Int) ≤ 2000 := by have := HK.out; omega
  have m2 : IntKind.i64.wrap ((i : Int) - (k : Int)) = (i : Int) - (k : Int) := IntWalk.i64_in _ (by omega)
  have HI := Lib.hid HI
  by_cases h1 : i < top
  ·have t1 : decide ((i : Int) < (top : Int)) = true := by simp; omega
   have t1' : decide (i < top) = true := by simp; omega
   by_cases h2 : i - k < many
   ·have t2 : decide ((i : Int) - (k : Int) < (many : Int)) = true := by have := HI.out; simp; omega
    obtain ⟨x, hx⟩ : ∃ x, o.s[i]? = some x := ⟨_, List.getElem?_eq_getElem (by have := HK.out; have := HL.out; omega)⟩
    obtain ⟨b, rfl, hb⟩ := HC.out i x hx
    have m3 : i < n := by have := HK.out; have := HL.out; omega
    have m3' : (i : Int) < (n : Int) := by omega
    by_cases h3 : x = st
    ·have hb' : w.cell? ⟨b, i, none⟩ = some (.int .u8 z) := by rw [hb, h3, HST.out]
     have hlt : i < t := hR.2 ⟨h1, h2, by rw [hx, h3]⟩
     have HLT := Lib.hid hlt
     clear hb hx h3 h1 h2 hR hlt m3
     go_wp2_with fail
     go_step3
     refine ⟨rfl, ⟨rfl, i + 1, _, _, _, _, _, _, _, _, _, _, _, _, _, _, _, _, _, _, _, _, _, _, _, _, _, _, _, _, _, _, _, _, _, _, _, _, ⟨by have := HI.out; omega, HLT.out⟩, rfl⟩, ?_⟩
     have := HLT.out
     have := HK.out
     simp
     omega
    ·have t3 : ((x.toNat : Int) == z) = false := by
      rw [← HST.out]
      simp only [beq_eq_false_iff_ne, ne_eq, Int.natCast_inj]
      exact fun e => h3 (UInt8.toNat_inj.1 e)
     have he : i = t := by
      rcases Nat.lt_or_ge i t with h | h
      ·obtain ⟨-, -, e⟩ := hR.1 h
       rw [hx] at e
       exact absurd (Option.some.inj e) h3
      ·have := HI.out; omega
     have HE := Lib.hid he
     clear hx h3 h1 h2 hR he m3
     go_wp2_with fail
     simp only [Exit.jump]
     go_ret3
     exact ⟨rfl, by rw [HE.out]; rfl⟩
   ·have t2 : decide ((i : Int) - (k : Int) < (many : Int)) = false := by have := HI.out; simp; omega
    have he : i = t := by
     rcases Nat.lt_or_ge i t with h | h
     ·exact absurd (hR.1 h).2.1 h2
     ·have := HI.out; omega
    have HE := Lib.hid he
    clear h1 h2 hR he
    go_wp2_with fail
    simp only [Exit.jump]
    go_ret3
    exact ⟨rfl, by rw [HE.out]; rfl⟩
  ·have t1 : decide ((i : Int) < (top : Int)) = false := by simp; omega
   have t1' : decide (i < top) = false := by simp; omega
   have he : i = t := by
    rcases Nat.lt_or_ge i t with h | h
    ·exact absurd (hR.1 h).1 h1
    ·have := HI.out; omega
   have HE := Lib.hid he
   clear h1 hR he
   go_wp2_with fail
   simp only [Exit.jump]
   go_ret3
   exact ⟨rfl, by rw [HE.out]; rfl⟩
end Go.Proofs.YtahgidkpjmecdaaGreatDoor
