/- Parts of the proof: SoF SoG SoI Reg SoJ. -/
import Derived.Test.YtahgidkpjmecdaaGreatDoorB02
import Derived.Test.YtahgidkpjmecdaaGreatDoorB07
import Derived.Deep.QuietTactic
import Derived.BigQuiet
import Derived.Deep.DeepCutAuto
import Derived.WalkMore
import Derived.WalkSpells
import Derived.WalkLawsBesides
import Derived.Deep.RegionHeld
import Derived.Deep.AppendSrc
import Derived.Maps.AppendAt
set_option maxRecDepth 100000
namespace Go.Proofs.YtahgidkpjmecdaaGreatDoor
open Go.RowKit
theorem results_tmp4 {fn : Func} {t u v x : Tmp} (h : fn.results = #[.tmp t, .tmp u, .tmp v, .tmp x]) (tmps : Array Value) (P : Program) (w : World) :
  (results fn tmps).run P w = .ok (.tuple #[tmps.getD t undef, tmps.getD u undef, tmps.getD v undef, tmps.getD x undef]) w := by
 simp [results, h]
def DueR (w w' : World) (d : Due) (e : Ending) : Prop := e = .returned (.tuple #[.int .i64 (d.a : Int), .int .i64 (d.t : Int), .bool d.e, .bool d.ok]) ∧ Mod (fun _ => False) w w'
theorem idxn0 {w : World} {v : Value} {l : List UInt8} (h : Byts w v l) (x : Int) (hx : Lib.indexByte l 0 = x) :
  Calls Tryz.prog 190 #[v, .int .u8 0] w fun e w' => w = w' ∧ e = .returned (.int .i64 x) := by
 subst hx
 exact idx_any h 0
set_option maxRecDepth 100000 in
set_option maxHeartbeats 1000000 in
theorem odue_any {B : Nat} {w : World} {ob : Nat} {bv sv : Value} {o : OB} (q : OBuf B w ob bv sv o) (many : Nat) (hm : (many : Int) ≤ 9223372036854775807) :
  Calls Tryz.prog 191 #[.pointer (some ⟨ob, 0, none⟩), .int .i64 (many : Int)] w fun e w' => DueR w w' (dueO o many) e := by
 obtain ⟨D, hD⟩ : ∃ D, D = dueO o many := ⟨_, rfl⟩
 rw [← hD]
 obtain ⟨a, cap, rfl, -⟩ := Sl.val q.s.byts
 have HQ := Lib.hid q
 have c1 : w.cell? ⟨ob, 1, none⟩ = some (.slice a o.s.length cap) := q.blk.cellAt 1 rfl
 have c2 : w.cell? ⟨ob, 2, none⟩ = some (.bool o.fin) := q.blk.cellAt 2 rfl
 have c3 : w.cell? ⟨ob, 3, none⟩ = some (.int .u8 (o.e.toNat : Int)) := q.blk.cellAt 3 rfl
 have hlen : (o.s.length : Int) ≤ 2000 := by have := q.len; have := q.most; omega
 clear q
 obtain ⟨E, hE⟩ : ∃ E, E = openE o := ⟨_, rfl⟩
 have HM := Lib.hid hm
 have HD := Lib.hid hD
 have HE := Lib.hid hE
 clear hD hE hm
 go_enter Tryz.func191, Tryz.ntmps191
 go_upto_region 1 with fail
 go_cut [8] (fun s8 wx => w = wx ∧ s8 = .bool E)
 case first =>
  cases hf : o.fin with
  | false =>
   rw [hf] at c2
   have HZ : Hid (E = false) := Lib.hid (by rw [HE.out]; simp [openE, hf])
   clear hf
   go_wp2_with fail
   go_meet
   exact ⟨rfl, by rw [HZ.out]⟩
  | true =>
   rw [hf] at c2
   by_cases h0 : o.e = 0
   ·have HZ : Hid (E = true) := Lib.hid (by rw [HE.out]; simp [openE, hf, h0])
    rw [h0] at c3
    have e0 : ((0 : UInt8).toNat : Int) = 0 := rfl
    rw [e0] at c3
    clear hf h0 e0
    go_wp2_with fail
    go_meet
    exact ⟨rfl, by rw [HZ.out]⟩
   ·by_cases h2 : o.e = 2
    ·have HZ : Hid (E = true) := Lib.hid (by rw [HE.out]; simp [openE, hf, h2])
     rw [h2] at c3
     have e0 : ((2 : UInt8).toNat : Int) = 2 := rfl
     rw [e0] at c3
     clear hf h2 h0 e0
     go_wp2_with fail
     go_meet
     exact ⟨rfl, by rw [HZ.out]⟩
    ·have HZ : Hid (E = false) := Lib.hid (by rw [HE.out]; simp [openE, hf, h0, h2])
     have t0 : ((o.e.toNat : Int) == 0) = false := by
      simp only [beq_eq_false_iff_ne, ne_eq]
      exact fun e => h0 (UInt8.toNat_inj.1 (by show o.e.toNat = 0; omega))
     have t2 : ((o.e.toNat : Int) == 2) = false := by
      simp only [beq_eq_false_iff_ne, ne_eq]
      exact fun e => h2 (UInt8.toNat_inj.1 (by show o.e.toNat = 2; omega))
     clear hf h2 h0
     generalize (o.e.toNat : Int) = z at *
     go_wp2_with fail
     go_meet
     exact ⟨rfl, by rw [HZ.out]⟩
 case rest =>
  obtain ⟨rfl, rfl⟩ := hcut
  clear c2 c3
  have HL := Lib.hid c1
  rcases h1 : runO o.s 2 o.s.length many with _ | ⟨k, t⟩
  ·have H1 := Lib.hid (orun_none HQ.out 2 2 rfl o.s.length many (Nat.le_refl _) h1)
   have H2 := Lib.hid (oopen_any HQ.out)
   rcases h2 : runO o.s 0 (openO o) many with _ | ⟨k, t⟩
   ·have H3 := Lib.hid (fun wx (hMx : Mod (fun _ => False) w wx) => orun_none (HQ.out.still hMx) 0 0 rfl (openO o) many (by unfold openO; omega) h2)
    have H4 := Lib.hid (fun wx (hMx : Mod (fun _ => False) w wx) => idxn0 (HQ.out.still hMx).s.byts _ rfl)
    cases E with
    | false =>
     have HDD : Hid (D = ⟨0, 0, false, false⟩) := Lib.hid (by
      rw [HD.out]
      unfold dueO
      rw [h1]
      dsimp only
      rw [show openN o = openO o from rfl, h2]
      dsimp only
      rw [if_neg (by rw [← HE.out]; simp)])
     clear h1 h2 HE
     generalize openO o = P at *
     generalize o.s.length = n at *
     go_wp2_with (first
      | (go_at_call 217; (with_reducible refine H1.out.mono ?_); rintro e w1 ⟨rfl, rfl⟩)
      | (go_at_call 218; (with_reducible refine H2.out.mono ?_); rintro e w1 ⟨rfl, hM1⟩; have HM1 := Lib.hid hM1; have d1 := hM1.cellAt HL.out (fun e => e); clear hM1)
      | (go_at_call 217; (with_reducible refine (H3.out _ HM1.out).mono ?_); rintro e w2 ⟨rfl, rfl⟩)
      | fail)
     refine bodyPost_ret (results_tmp4 rfl _ _ _) rfl ?_
     exact ⟨by rw [HDD.out]; rfl, HM1.out⟩
    | true =>
     by_cases hx : Lib.indexByte o.s 0 < 0
     ·have HDD : Hid (D = ⟨o.s.length, o.s.length, true, true⟩) := Lib.hid (by
       rw [HD.out]
       unfold dueO
       rw [h1]
       dsimp only
       rw [show openN o = openO o from rfl, h2]
       dsimp only
       rw [if_pos (by rw [← HE.out]; simpa using hx)])
      have hx1 : decide (Lib.indexByte o.s 0 < 0) = true := by simpa using hx
      clear h1 h2 HE hx
      generalize Lib.indexByte o.s 0 = x at *
      generalize openO o = P at *
      generalize o.s.length = n at *
      go_upto_region 8 with (first
       | (go_at_call 217; (with_reducible refine H1.out.mono ?_); rintro e w1 ⟨rfl, rfl⟩)
       | (go_at_call 218; (with_reducible refine H2.out.mono ?_); rintro e w1 ⟨rfl, hM1⟩; have HM1 := Lib.hid hM1; have d1 := hM1.cellAt HL.out (fun e => e); clear hM1)
       | (go_at_call 217; (with_reducible refine (H3.out _ HM1.out).mono ?_); rintro e w2 ⟨rfl, rfl⟩)
       | (go_at_call 190; (with_reducible refine (H4.out _ HM1.out).mono ?_); rintro e w2 ⟨rfl, rfl⟩)
       | fail)
      go_quiet (fail)
      go_wp2_with fail
      refine bodyPost_ret (results_tmp4 rfl _ _ _) rfl ?_
      exact ⟨by rw [HDD.out]; rfl, HM1.out.drewN _⟩
     ·have HDD : Hid (D = ⟨0, 0, false, false⟩) := Lib.hid (by
       rw [HD.out]
       unfold dueO
       rw [h1]
       dsimp only
       rw [show openN o = openO o from rfl, h2]
       dsimp only
       rw [if_neg (by rw [← HE.out]; simpa using hx)])
      have hx1 : decide (Lib.indexByte o.s 0 < 0) = false := by simpa using hx
      clear h1 h2 HE hx
      generalize Lib.indexByte o.s 0 = x at *
      generalize openO o = P at *
      generalize o.s.length = n at *
      go_wp2_with (first
       | (go_at_call 217; (with_reducible refine H1.out.mono ?_); rintro e w1 ⟨rfl, rfl⟩)
       | (go_at_call 218; (with_reducible refine H2.out.mono ?_); rintro e w1 ⟨rfl, hM1⟩; have HM1 := Lib.hid hM1; have d1 := hM1.cellAt HL.out (fun e => e); clear hM1)
       | (go_at_call 217; (with_reducible refine (H3.out _ HM1.out).mono ?_); rintro e w2 ⟨rfl, rfl⟩)
       | (go_at_call 190; (with_reducible refine (H4.out _ HM1.out).mono ?_); rintro e w2 ⟨rfl, rfl⟩)
       | fail)
      refine bodyPost_ret (results_tmp4 rfl _ _ _) rfl ?_
      exact ⟨by rw [HDD.out]; rfl, HM1.out⟩
   ·have H3 := Lib.hid (fun wx (hMx : Mod (fun _ => False) w wx) => orun_some (HQ.out.still hMx) 0 0 rfl (openO o) many k t (by unfold openO; omega) h2 HM.out)
    have hd : D = ⟨k, t, E && decide (t = o.s.length), true⟩ := by
     rw [HD.out, HE.out]
     unfold dueO
     rw [h1]
     dsimp only
     rw [show openN o = openO o from rfl, h2]
    clear h1 h2
    have ht' : t ≤ o.s.length := by have := dueO_le o many; rw [← HD.out, hd] at this; exact this.2
    have n1 : (t : Int) ≤ 2000 := by omega
    clear ht'
    by_cases hte : t = o.s.length
    ·have HDD : Hid (D = ⟨k, t, E, true⟩) := Lib.hid (by rw [hd, hte]; simp)
     have t1 : ((t : Int) == (o.s.length : Int)) = true := by simp [hte]
     clear hd hte
     generalize openO o = P at *
     generalize o.s.length = n at *
     cases E with
     | false =>
      go_upto_region 6 with (first
       | (go_at_call 217; (with_reducible refine H1.out.mono ?_); rintro e w1 ⟨rfl, rfl⟩)
       | (go_at_call 218; (with_reducible refine H2.out.mono ?_); rintro e w1 ⟨rfl, hM1⟩; have HM1 := Lib.hid hM1; have d1 := hM1.cellAt HL.out (fun e => e); clear hM1)
       | (go_at_call 217; (with_reducible refine (H3.out _ HM1.out).mono ?_); rintro e w2 ⟨rfl, rfl⟩)
       | fail)
      go_quiet (fail)
      go_wp2_with fail
      refine bodyPost_ret (results_tmp4 rfl _ _ _) rfl ?_
      exact ⟨by rw [HDD.out]; rfl, HM1.out.drewN _⟩
     | true =>
      go_upto_region 6 with (first
       | (go_at_call 217; (with_reducible refine H1.out.mono ?_); rintro e w1 ⟨rfl, rfl⟩)
       | (go_at_call 218; (with_reducible refine H2.out.mono ?_); rintro e w1 ⟨rfl, hM1⟩; have HM1 := Lib.hid hM1; have d1 := hM1.cellAt HL.out (fun e => e); clear hM1)
       | (go_at_call 217; (with_reducible refine (H3.out _ HM1.out).mono ?_); rintro e w2 ⟨rfl, rfl⟩)
       | fail)
      go_quiet (fail)
      go_wp2_with fail
      refine bodyPost_ret (results_tmp4 rfl _ _ _) rfl ?_
      exact ⟨by rw [HDD.out]; rfl, HM1.out.drewN _⟩
    ·have HDD : Hid (D = ⟨k, t, false, true⟩) := Lib.hid (by rw [hd]; simp [hte])
     have t1 : ((t : Int) == (o.s.length : Int)) = false := by simp; omega
     clear hd hte
     generalize openO o = P at *
     generalize o.s.length = n at *
     cases E with
     | false =>
      go_upto_region 6 with (first
       | (go_at_call 217; (with_reducible refine H1.out.mono ?_); rintro e w1 ⟨rfl, rfl⟩)
       | (go_at_call 218; (with_reducible refine H2.out.mono ?_); rintro e w1 ⟨rfl, hM1⟩; have HM1 := Lib.hid hM1; have d1 := hM1.cellAt HL.out (fun e => e); clear hM1)
       | (go_at_call 217; (with_reducible refine (H3.out _ HM1.out).mono ?_); rintro e w2 ⟨rfl, rfl⟩)
       | fail)
      go_quiet (fail)
      go_wp2_with fail
      refine bodyPost_ret (results_tmp4 rfl _ _ _) rfl ?_
      exact ⟨by rw [HDD.out]; rfl, HM1.out.drewN _⟩
     | true =>
      go_upto_region 6 with (first
       | (go_at_call 217; (with_reducible refine H1.out.mono ?_); rintro e w1 ⟨rfl, rfl⟩)
       | (go_at_call 218; (with_reducible refine H2.out.mono ?_); rintro e w1 ⟨rfl, hM1⟩; have HM1 := Lib.hid hM1; have d1 := hM1.cellAt HL.out (fun e => e); clear hM1)
       | (go_at_call 217; (with_reducible refine (H3.out _ HM1.out).mono ?_); rintro e w2 ⟨rfl, rfl⟩)
       | fail)
      go_quiet (fail)
      go_wp2_with fail
      refine bodyPost_ret (results_tmp4 rfl _ _ _) rfl ?_
      exact ⟨by rw [HDD.out]; rfl, HM1.out.drewN _⟩
  ·have H1 := Lib.hid (orun_some HQ.out 2 2 rfl o.s.length many k t (Nat.le_refl _) h1 HM.out)
   have hd : D = ⟨k, t, E && decide (t = o.s.length), true⟩ := by
    rw [HD.out, HE.out]
    unfold dueO
    rw [h1]
   clear h1
   have ht' : t ≤ o.s.length := by have := dueO_le o many; rw [← HD.out, hd] at this; exact this.2
   have n1 : (t : Int) ≤ 2000 := by omega
   clear ht'
   by_cases hte : t = o.s.length
   ·have HDD : Hid (D = ⟨k, t, E, true⟩) := Lib.hid (by rw [hd, hte]; simp)
    have t1 : ((t : Int) == (o.s.length : Int)) = true := by simp [hte]
    clear hd hte
    generalize openO o = P at *
    generalize o.s.length = n at *
    cases E with
    | false =>
     go_upto_region 6 with (first
      | (go_at_call 217; (with_reducible refine H1.out.mono ?_); rintro e w1 ⟨rfl, rfl⟩)
      | fail)
     go_quiet (fail)
     go_wp2_with fail
     refine bodyPost_ret (results_tmp4 rfl _ _ _) rfl ?_
     exact ⟨by rw [HDD.out]; rfl, (Mod.refl _ _).drewN _⟩
    | true =>
     go_upto_region 6 with (first
      | (go_at_call 217; (with_reducible refine H1.out.mono ?_); rintro e w1 ⟨rfl, rfl⟩)
      | fail)
     go_quiet (fail)
     go_wp2_with fail
     refine bodyPost_ret (results_tmp4 rfl _ _ _) rfl ?_
     exact ⟨by rw [HDD.out]; rfl, (Mod.refl _ _).drewN _⟩
   ·have HDD : Hid (D = ⟨k, t, false, true⟩) := Lib.hid (by rw [hd]; simp [hte])
    have t1 : ((t : Int) == (o.s.length : Int)) = false := by simp; omega
    clear hd hte
    generalize openO o = P at *
    generalize o.s.length = n at *
    cases E with
    | false =>
     go_upto_region 6 with (first
      | (go_at_call 217; (with_reducible refine H1.out.mono ?_); rintro e w1 ⟨rfl, rfl⟩)
      | fail)
     go_quiet (fail)
     go_wp2_with fail
     refine bodyPost_ret (results_tmp4 rfl _ _ _) rfl ?_
     exact ⟨by rw [HDD.out]; rfl, (Mod.refl _ _).drewN _⟩
    | true =>
     go_upto_region 6 with (first
      | (go_at_call 217; (with_reducible refine H1.out.mono ?_); rintro e w1 ⟨rfl, rfl⟩)
      | fail)
     go_quiet (fail)
     go_wp2_with fail
     refine bodyPost_ret (results_tmp4 rfl _ _ _) rfl ?_
     exact ⟨by rw [HDD.out]; rfl, (Mod.refl _ _).drewN _⟩
theorem OwnB.set {w : World} {B g n cap i : Nat} {l : List UInt8} (h : OwnB w B (.slice (some ⟨g, 0, none⟩) n cap) l) (x : UInt8) : OwnB (w.setCell ⟨g, i, none⟩ (.int .u8 (x.toNat : Int))) B (.slice (some ⟨g, 0, none⟩) n cap) (l.set i x) := by
 rcases h.2 with ⟨h1, _⟩ | ⟨g', cap', cur, he, hb, hg, hc1, hc2, hs, ht⟩
 ·cases h1
 ·have he' := he
  simp only [Value.slice.injEq, Option.some.injEq, Addr.mk.injEq, and_true] at he'
  obtain ⟨rfl, rfl, rfl⟩ := he'
  have hB : Blk w g cur 5 := hg
  refine ⟨by simp, .inr ⟨g, cap, _, by rw [List.length_set], hb, hB.set i _, by rw [List.length_set]; exact hc1, hc2, by rw [Array.size_setIfInBounds]; exact hs, ?_⟩⟩
  rw [Array.toList_setIfInBounds, List.length_set, List.take_set, ht, List.map_set]
  rfl
theorem OwnB.place {w : World} {B g n cap i : Nat} {l : List UInt8} {x : UInt8} (h : OwnB w B (.slice (some ⟨g, 0, none⟩) n cap) l) (hi : l[i]? = some x) : w.cell? ⟨g, i, none⟩ = some (.int .u8 (x.toNat : Int)) ∧ w.frozen? ⟨g, i, none⟩ = false := by
 constructor
 ·have := World.ownsRow.cells h (g := g) rfl i (bv x) (by rw [List.getElem?_map, hi]; rfl)
  rw [Addr.add_lit, Nat.zero_add] at this
  exact this
 ·rcases h.2 with ⟨h1, _⟩ | ⟨g', cap', cur, he, hb, hg, _⟩
  ·cases h1
  ·simp only [Value.slice.injEq, Option.some.injEq, Addr.mk.injEq, and_true] at he
   obtain ⟨rfl, _, _⟩ := he
   exact (show Blk w g cur 5 from hg).free i
def pieceV : Value → Nat → Nat → Value
 | .slice p _ cap, a, t => sliced p a t cap 1
 | v, _, _ => v
theorem piece_run {w : World} {p : Option Addr} {n cap a t : Nat} (ha : a ≤ t) (ht : t ≤ cap) : (Instr.slice 31 (.slice p n cap) (some (.int .i64 (a : Int))) (some (.int .i64 (t : Int))) none).run Tryz.prog w = .ok (pieceV (.slice p n cap) a t) w := by
 have e := run_slice_lh (P := Tryz.prog) w 31 p n cap Tryz.underlying31 .i64 .i64 (a : Int) (t : Int) (by omega) (by omega) (by omega)
 have es : (Go.sizeOf (Program.elem Tryz.prog 31)).run Tryz.prog w = .ok 1 w := by kernel_rfl
 rw [es] at e
 simpa [pieceV] using e
theorem piece_byts {w : World} {p : Option Addr} {n cap a t : Nat} {l : List UInt8} (h : Byts w (.slice p n cap) l) (ha : a ≤ t) (ht : t ≤ l.length) : Byts w (pieceV (.slice p n cap) a t) ((l.take t).drop a) := by
 obtain ⟨h1, p', cap', he, h2, h3, h4, h5⟩ := h
 simp only [Value.slice.injEq] at he
 obtain ⟨rfl, rfl, rfl⟩ := he
 have e : ((l.take t).drop a).length = t - a := by simp; omega
 simp only [pieceV, sliced]
 by_cases hc : cap = a
 ·have h0 : (l.take t).drop a = [] := List.eq_nil_of_length_eq_zero (by rw [e]; omega)
  rw [if_pos hc, h0]
  refine ⟨by simp, p, cap - a, by congr 1; simp; omega, by simp, by omega, fun h => by have := h4 h; omega, fun j u hu => by simp at hu⟩
 ·rw [if_neg hc]
  refine ⟨by simp, p.map (·.add (a * 1)), cap - a, by rw [e], by rw [e]; omega, by omega, fun h => ?_, fun j u hu => ?_⟩
  ·cases p with
   | none => have := h4 rfl; omega
   | some q => simp at h
  ·have hj : j < t - a := by
    rw [List.getElem?_map] at hu
    rcases Nat.lt_or_ge j (t - a) with h | h
    ·exact h
    ·rw [List.getElem?_eq_none (by rw [e]; exact h)] at hu
     cases hu
   rw [List.getElem?_map, List.getElem?_drop, List.getElem?_take, if_pos (by omega)] at hu
   obtain ⟨b, off, hp, hcell⟩ := h5 (a + j) u (by rw [List.getElem?_map]; exact hu)
   refine ⟨b, off + a, by rw [hp]; simp [Addr.add], ?_⟩
   rw [Nat.add_assoc]
   exact hcell
def NextR (B : Nat) (w w' : World) (ob : Nat) (bv sv : Value) (o : OB) (many : Nat) (e : Ending) : Prop :=
 ∃ v, e = .returned (.tuple #[.int .u64 ((dueO o many).a : Int), v, .bool (dueO o many).e, .bool (dueO o many).ok]) ∧ OwnB w' w.heap.size v (nextB o many) ∧ OBuf B w' ob bv sv (nextO o many) ∧ Mod (OS ob bv sv) w w'
theorem OBuf.mark {B : Nat} {w : World} {ob g n cap i : Nat} {bv : Value} {o : OB} (q : OBuf B w ob bv (.slice (some ⟨g, 0, none⟩) n cap) o) (f : UInt8 → UInt8) (a : Nat) {s : List UInt8} {x : UInt8} (ha : a ≤ i) (hs : o.s = mapR f a i s) (hx : s[i]? = some x) :
  OBuf B (w.setCell ⟨g, i, none⟩ (.int .u8 ((f x).toNat : Int))) ob bv (.slice (some ⟨g, 0, none⟩) n cap) { o with s := mapR f a (i + 1) s } := by
 have hM : Mod (fun k => k = g) w (w.setCell ⟨g, i, none⟩ (.int .u8 ((f x).toNat : Int))) := (Mod.refl (fun k => k = g) _).setCell (p := ⟨g, i, none⟩) (fun _ => rfl) _
 have hne : ob ≠ g := fun e => q.s.ne q.blk (by decide) g rfl e.symm
 have e : mapR f a (i + 1) s = (mapR f a i s).set i (f x) := mapR_step f a i s x ha hx
 refine ⟨q.at0, hM.blk q.blk hne, q.b.keptM hM (fun k hk e => q.apart k hk (by rw [e]; rfl)), ?_, ?_, q.most, q.lim, q.apart⟩
 ·dsimp only
  rw [e, ← hs]
  exact q.s.set (f x)
 ·dsimp only
  rw [mapR_len, ← q.len, hs, mapR_len]
theorem OBuf.endE {B : Nat} {w : World} {ob : Nat} {bv sv : Value} {o : OB} (q : OBuf B w ob bv sv o) (x : UInt8) : OBuf B (w.setCell ⟨ob, 3, none⟩ (.int .u8 (x.toNat : Int))) ob bv sv { o with e := x } := by
 have hM : Mod (fun k => k = ob) w (w.setCell ⟨ob, 3, none⟩ (.int .u8 (x.toNat : Int))) := (Mod.refl (fun k => k = ob) _).setCell (p := ⟨ob, 3, none⟩) (fun _ => rfl) _
 exact ⟨q.at0, q.blk.set 3 (.int .u8 (x.toNat : Int)), q.b.keptM hM (q.b.ne q.blk (by decide)), q.s.keptM hM (q.s.ne q.blk (by decide)), q.len, q.most, q.lim, q.apart⟩
set_option maxRecDepth 100000 in
set_option maxHeartbeats 1000000 in
theorem onext_any {B : Nat} {w : World} {ob : Nat} {bv sv : Value} {o : OB} (q : OBuf B w ob bv sv o) (many : Nat) (hm : (many : Int) ≤ 9223372036854775807) (h1 : 1 ≤ many) :
  Calls Tryz.prog 105 #[.pointer (some ⟨ob, 0, none⟩), .int .i64 (many : Int)] w fun e w' => NextR B w w' ob bv sv o many e := by
 obtain ⟨sa, cap, rfl, hcap, hcm, -⟩ := Sl.val q.s.byts
 obtain ⟨ba, bcap, rfl, hbcap, hbcm, -⟩ := Sl.val q.b.byts
 have hle := dueO_le o many
 have hlen : o.s.length ≤ 2000 := by rw [q.len]; exact q.most
 have HD := Lib.hid (odue_any q many hm)
 obtain ⟨D, hD⟩ : ∃ D, D = dueO o many := ⟨_, rfl⟩
 have hN : nextO o many = { o with s := mapR (fun _ => 1) D.a D.t o.s, e := if D.e then 1 else o.e } := by rw [hD]; rfl
 have hB : nextB o many = (o.b.take D.t).drop D.a := by rw [hD]; rfl
 have HNB := Lib.hid (And.intro hN (And.intro hB hD))
 rw [← hD] at HD hle
 obtain ⟨a, t, ee, ok⟩ := D
 have hol := q.len
 have hle : a ≤ t ∧ t ≤ o.s.length := hle
 have HLE := Lib.hid (And.intro hle (And.intro hlen (And.intro hol (And.intro hcap hbcap))))
 have HQ := Lib.hid q
 have n1 : (0 : Int) ≤ (a : Int) := by omega
 have n2 : (t : Int) ≤ 2000 := by have := hle.2; omega
 have n3 : (a : Int) ≤ 2000 := by have := hle.1; omega
 have n4 : decide ((many : Int) < 1) = false := by simp; omega
 have n4' : decide (many < 1) = false := by simp; omega
 have n5 : IntKind.u64.wrap (a : Int) = (a : Int) := IntWalk.u64_in _ (by omega)
 clear hN hB hD hle hol q hcap hbcap hlen hcm hbcm
 have HP := Lib.hid (fun (X : World) => piece_run (w := X) (p := ba) (n := o.b.length) (cap := bcap) (a := a) (t := t) HLE.out.1.1 (by have := HLE.out; omega))
 have HBY := Lib.hid (fun (X : World) (hX : Byts X (.slice ba o.b.length bcap) o.b) => clone_any (w := X) (piece_byts hX HLE.out.1.1 (by have := HLE.out; omega)) (by have := HLE.out; simp; omega))
 go_enter Tryz.func105, Tryz.ntmps105
 go_wp2_with (first
  | (go_at_call 191; (with_reducible refine HD.out.mono ?_); rintro e w1 ⟨rfl, hM1⟩; have HM1 := Lib.hid hM1; clear hM1)
  | fail)
 go_loopw [12] (fun i wr => ∃ k : Nat, (a ≤ k ∧ k ≤ t) ∧ i = .int .i64 (k : Int) ∧ Hid (OBuf B wr ob (.slice ba o.b.length bcap) (.slice sa o.s.length cap) { o with s := mapR (fun _ => 1) a k o.s } ∧ Mod (OS ob (.slice ba o.b.length bcap) (.slice sa o.s.length cap)) w wr)) (fun i _ => t - (intOf i).toNat)
 case atStart =>
  refine ⟨a, ⟨Nat.le_refl _, HLE.out.1.1⟩, rfl, Lib.hid ⟨?_, HM1.out.mono (fun _ _ h => h.elim)⟩⟩
  rw [mapR_nil _ _ _ _ (Nat.le_refl _)]
  exact HQ.out.still HM1.out
 case round =>
  obtain ⟨k, hk, rfl, HI⟩ := hrel
  have HK := Lib.hid hk
  by_cases hkt : k < t
  ·have t1 : decide ((k : Int) < (t : Int)) = true := by simp; omega
   have t1' : decide (k < t) = true := by simp; omega
   have hkn : k < o.s.length := by have := HLE.out; omega
   obtain ⟨g, hg⟩ : ∃ g, sa = some ⟨g, 0, none⟩ := by
    rcases HI.out.1.s.2 with ⟨-, h⟩ | ⟨g, cap', cur, he, _⟩
    ·have h' : (mapR (fun _ => 1) a k o.s).length = 0 := h
     rw [mapR_len] at h'
     omega
    ·simp only [Value.slice.injEq] at he
     exact ⟨g, he.1⟩
   subst hg
   have c1 : wr.cell? ⟨ob, 1, none⟩ = some (.slice (some ⟨g, 0, none⟩) o.s.length cap) := HI.out.1.blk.cellAt 1 rfl
   obtain ⟨x, hx⟩ : ∃ x, o.s[k]? = some x := ⟨_, List.getElem?_eq_getElem hkn⟩
   obtain ⟨p1, p2⟩ := HI.out.1.s.place (i := k) (x := x) (by dsimp only; rw [mapR_at]; exact hx)
   have HX := Lib.hid hx
   have HKT := Lib.hid hkt
   have z0 : (0 : Int) ≤ (k : Int) := by omega
   have z1 : (k : Int) < (o.s.length : Int) := by omega
   have z2 : (k : Int) ≤ 2000 := by omega
   clear hx hk hkt hkn
   generalize o.s.length = n at *
   go_wp2_with fail
   go_roundw
   case rel =>
    refine ⟨k + 1, ⟨by have := HK.out; omega, HKT.out⟩, by go_num, Lib.hid ⟨HI.out.1.mark (fun _ => 1) a HK.out.1 rfl HX.out, HI.out.2.setCell (p := ⟨g, k, none⟩) (fun _ => .inr (.inr rfl)) _⟩⟩
   case measure => have := HKT.out; simp [intOf]; omega
  ·obtain rfl : k = t := by omega
   have t1 : decide ((k : Int) < (k : Int)) = false := by simp
   have c0 : wr.cell? ⟨ob, 0, none⟩ = some (.slice ba o.b.length bcap) := HI.out.1.blk.cellAt 0 rfl
   have f3 : wr.frozen? ⟨ob, 3, none⟩ = false := HI.out.1.blk.free 3
   have c3 : (wr.cell? ⟨ob, 3, none⟩).isSome = true := by rw [HI.out.1.blk.cellAt 3 rfl]; rfl
   have hP := HP.out
   have k3 : wr.cell? ⟨ob, 3, none⟩ = some (.int .u8 (o.e.toNat : Int)) := HI.out.1.blk.cellAt 3 rfl
   generalize pieceV (.slice ba o.b.length bcap) a k = V at *
   clear hk hkt HP
   cases ee with
   | false =>
    go_wp2_with (first
     | (go_at_call 124; (with_reducible refine (HBY.out _ HI.out.1.b.byts).mono ?_); rintro e w2 ⟨v, rfl, hv, hM2⟩; have HM2 := Lib.hid (And.intro hv hM2); clear hv hM2)
     | fail)
    refine bodyPost_ret (results_tmp4 rfl _ _ _) rfl ?_
    unfold NextR
    rw [HNB.out.1, HNB.out.2.1, ← HNB.out.2.2]
    exact ⟨v, rfl, own_mono HM2.out.1 HI.out.2.size, HI.out.1.still HM2.out.2, HI.out.2.trans (HM2.out.2.mono (fun _ _ h => h.elim))⟩
   | true =>
    have HE : Hid (OBuf B (wr.setCell ⟨ob, 3, none⟩ (.int .u8 1)) ob (.slice ba o.b.length bcap) (.slice sa o.s.length cap) { o with s := mapR (fun _ => 1) a k o.s, e := 1 }) := Lib.hid (HI.out.1.endE 1)
    have HME : Hid (Mod (OS ob (.slice ba o.b.length bcap) (.slice sa o.s.length cap)) w (wr.setCell ⟨ob, 3, none⟩ (.int .u8 1))) := Lib.hid (HI.out.2.setCell (p := ⟨ob, 3, none⟩) (fun _ => .inl rfl) _)
    go_wp2_with (first
     | (go_at_call 124; (with_reducible refine (HBY.out _ HE.out.b.byts).mono ?_); rintro e w2 ⟨v, rfl, hv, hM2⟩; have HM2 := Lib.hid (And.intro hv hM2); clear hv hM2)
     | fail)
    refine bodyPost_ret (results_tmp4 rfl _ _ _) rfl ?_
    unfold NextR
    rw [HNB.out.1, HNB.out.2.1, ← HNB.out.2.2]
    exact ⟨v, rfl, own_mono HM2.out.1 HME.out.size, HE.out.still HM2.out.2, HME.out.trans (HM2.out.2.mono (fun _ _ h => h.elim))⟩
end Go.Proofs.YtahgidkpjmecdaaGreatDoor
set_option maxRecDepth 100000
namespace Go.Proofs.YtahgidkpjmecdaaGreatDoor
section
variable {P : Program} {ops : Array Oper} {Q : Exit → Act → World → Prop} {md : Region.Mode} {S : World → Prop} {last : Nat}
def wpAnyL (P : Program) (md : Region.Mode) (ops : Array Oper) (Q : Exit → Act → World → Prop) (S : World → Prop) (last : Nat) : Nat → Array Bool → Act → World → Prop
 | 0, listed, a, w => Region.ready md ops listed = [] ∧ Q .normal a w
 | n + 1, listed, a, w => (Region.ready md ops listed = [] → Q .normal a w) ∧
  ∀ i ∈ Region.ready md ops listed, wpOp P ops Q i (fun a' w' => (i ≠ last → S w') ∧ wpAnyL P md ops Q S last n (listed.setIfInBounds i true) a' w') a w
theorem wpAnyL.any : ∀ (n : Nat) (listed : Array Bool) (a : Act) (w : World), wpAnyL P md ops Q S last n listed a w → wpAny P md ops Q n listed a w
 | 0, _, _, _, h => h
 | n + 1, _, _, _, h => ⟨h.1, fun i hi => wpOp_mono (fun a' w' k => wpAnyL.any n _ a' w' k.2) (h.2 i hi)⟩
def waitsFor (md : Region.Mode) (ops : Array Oper) (i : Nat) : List Nat :=
 (List.range ops.size).foldl (fun D k => if D.contains k then D else if ((ops[k]?).map fun o => o.after.any fun e => Region.binds md e && D.contains e.on).getD false then k :: D else D) [i]
def Behind (md : Region.Mode) (ops : Array Oper) (listed : Array Bool) (i : Nat) (D : List Nat) : Bool :=
 D.all fun k => !listed.getD k true && (k == i || ((ops[k]?).map fun o => o.after.any fun e => Region.binds md e && D.contains e.on).getD false)
theorem behind_not {listed : Array Bool} {i j : Nat} {D : List Nat} (h : Behind md ops listed i D = true) (hj : j ∈ Region.ready md ops listed) (hne : j ≠ i) : j ∉ D := by
 intro hd
 obtain ⟨hu, o, ho, hall⟩ := mem_ready.1 hj
 unfold Behind at h
 rw [List.all_eq_true] at h
 have hjj := h j hd
 rw [Bool.and_eq_true, Bool.or_eq_true] at hjj
 rcases hjj.2 with e | e
 ·exact hne (by simpa using e)
 ·rw [ho, Option.map_some, Option.getD_some, Array.any_eq_true'] at e
  obtain ⟨x, hx, hb⟩ := e
  rw [Bool.and_eq_true] at hb
  have h1 := hall x hx hb.1
  have h2 := h x.on (by simpa using hb.2)
  rw [Bool.and_eq_true] at h2
  have h3 : listed.getD x.on true = false := by simpa using h2.1
  rcases Nat.lt_or_ge x.on listed.size with hl | hl
  ·simp [hl] at h1 h3
   rw [h1] at h3
   cases h3
  ·simp [Array.getElem?_eq_none hl] at h1
theorem behind_set {listed : Array Bool} {i j : Nat} {D : List Nat} (h : Behind md ops listed i D = true) (hj : j ∉ D) : Behind md ops (listed.setIfInBounds j true) i D = true := by
 unfold Behind at *
 rw [List.all_eq_true] at *
 intro k hk
 have hjk : j ≠ k := fun e => hj (e ▸ hk)
 rw [getD_set_ne true hjk]
 exact h k hk
theorem wpAnyL.first {i : Nat} {oi : Oper} {v : Value} {D : List Nat} (hi : ops[i]? = some oi) (hsel : ∀ (j : Nat) (o : Oper) cs b, ops[j]? = some o → o.op ≠ .select cs b)
  (hQ : ∀ c a w, Q (.panic c) (a.put oi.dst v) w → Q (.panic c) a w) (hD : last ∈ D) (hil : i ≠ last) :
  ∀ (n : Nat) (listed : Array Bool) (a : Act) (w : World),
   (∀ j oj, ops[j]? = some oj → j ≠ i → listed.getD j true = false → (∀ e ∈ oj.after, Region.binds md e = true → e.on ≠ i) → oi.apart ops oj = true) →
   Behind md ops listed i D = true → i ∈ Region.ready md ops listed → YieldsIf P ops S oi v a → S w →
   wpAnyL P md ops Q S last n (listed.setIfInBounds i true) (a.put oi.dst v) w → wpAnyL P md ops Q S last (n + 1) listed a w := by
 intro n
 induction n with
 | zero =>
  intro listed a w _ hb hr hy hS H
  refine ⟨fun e => absurd hr (by rw [e]; simp), fun j hj => ?_⟩
  by_cases hji : j = i
  ·subst hji
   exact hy.wpOp hi hS ⟨fun _ => hS, H⟩
  ·have k := ready_mono hj hji
   rw [H.1] at k
   exact absurd k (by simp)
 | succ n ih =>
  intro listed a w hfree hb hr hy hS H
  refine ⟨fun e => absurd hr (by rw [e]; simp), fun j hj => ?_⟩
  by_cases hji : j = i
  ·subst hji
   exact hy.wpOp hi hS ⟨fun _ => hS, H⟩
  ·have hjD := behind_not hb hj hji
   have hjl : j ≠ last := fun e => hjD (e ▸ hD)
   obtain ⟨hun, oj, hoj, hall⟩ := mem_ready.1 hj
   have hui := (mem_ready.1 hr).1
   have hno : ∀ e ∈ oj.after, Region.binds md e = true → e.on ≠ i := by
    intro e he hbe heq
    have h1 := hall e he hbe
    rw [heq] at h1
    rcases Nat.lt_or_ge i listed.size with hl | hl
    ·simp [hl] at hui h1
     rw [hui] at h1
     cases h1
    ·simp [Array.getElem?_eq_none hl] at h1
   have step := wpOp_putIf hoj (hfree j oj hoj hji hun hno) (fun cs b => hsel i oi cs b hi) (fun cs b => hsel j oj cs b hoj) hQ hy (H.2 j (ready_mono hj hji))
   refine wpOp_mono (fun a' w' h3 => ⟨h3.2.1, ?_⟩) step
   refine ih (listed.setIfInBounds j true) a' w' (fun k ok hk hki hu hn => hfree k ok hk hki ?_ hn) (behind_set hb hjD) (ready_mono hr (Ne.symm hji)) h3.1 (h3.2.1 hjl) ?_
   ·by_cases hjk : j = k
    ·subst hjk; exact hun
    ·rwa [getD_set_ne true hjk] at hu
   ·rw [Array.setIfInBounds_comm _ _ hji]
    exact h3.2.2
theorem takeRL {i : Nat} {oi : Oper} {v : Value} {n : Nat} {listed : Array Bool} {a : Act} {w : World} (d : Option Tmp) (hi : ops[i]? = some oi) (hd : oi.dst = d)
  (hs : Region.noSelect ops = true) (hf : Region.free md ops listed i = true) (hr : (Region.ready md ops listed).contains i = true)
  (hb : ((waitsFor md ops i).contains last && i != last && Behind md ops listed i (waitsFor md ops i)) = true)
  (hQ : ∀ c a w, Q (.panic c) (a.put d v) w → Q (.panic c) a w) (hy : YieldsIf P ops S oi v a) (hS : S w)
  (h : wpAnyL P md ops Q S last n (listed.setIfInBounds i true) (a.put d v) w) : wpAnyL P md ops Q S last (n + 1) listed a w := by
 subst hd
 rw [Bool.and_eq_true, Bool.and_eq_true] at hb
 exact wpAnyL.first hi (Region.noSelect_spec hs) hQ (by simpa using hb.1.1) (by simpa using hb.1.2) n listed a w (Region.free_spec hi hf) hb.2 (by simpa using hr) hy hS h
def AllReadyL (P : Program) (md : Region.Mode) (ops : Array Oper) (Q : Exit → Act → World → Prop) (S : World → Prop) (last n : Nat) (listed : Array Bool) (a : Act) (w : World) (rs : List Nat) : Prop :=
 ∀ i ∈ rs, wpOp P ops Q i (fun a' w' => (i ≠ last → S w') ∧ wpAnyL P md ops Q S last n (listed.setIfInBounds i true) a' w') a w
theorem AllReadyL.nil {n : Nat} {listed : Array Bool} {a : Act} {w : World} : AllReadyL P md ops Q S last n listed a w [] := fun _ h => by cases h
theorem AllReadyL.cons {n : Nat} {listed : Array Bool} {a : Act} {w : World} {i : Nat} {o : Oper} {rs : List Nat} (ho : ops[i]? = some o) (hl : i ≠ last)
  (h : ∀ K' : Act → World → Prop, Shut (∀ a w, S w → (S w → wpAnyL P md ops Q S last n (listed.setIfInBounds i true) a w) → K' a w) → if Region.wanted o (yielded ops a.tmps) = true then Oper.wp P o a w K' Q else K' (a.put o.dst undef) w)
  (hs : AllReadyL P md ops Q S last n listed a w rs) : AllReadyL P md ops Q S last n listed a w (i :: rs) := fun j hj => by
 rcases List.mem_cons.1 hj with e | hj
 ·subst e
  exact wpOp_step ho (fun K' hK => h K' (fun a w hS hW => hK a w ⟨fun _ => hS, hW hS⟩))
 ·exact hs j hj
theorem AllReadyL.closing {n : Nat} {listed : Array Bool} {a : Act} {w : World} {o : Oper} (ho : ops[last]? = some o)
  (h : ∀ K' : Act → World → Prop, Shut (∀ a w, wpAnyL P md ops Q S last n (listed.setIfInBounds last true) a w → K' a w) → if Region.wanted o (yielded ops a.tmps) = true then Oper.wp P o a w K' Q else K' (a.put o.dst undef) w) :
  AllReadyL P md ops Q S last n listed a w [last] := fun j hj => by
 obtain rfl : j = last := by simpa using hj
 exact wpOp_step ho (fun K' hK => h K' (fun a w hW => hK a w ⟨fun e => absurd rfl e, hW⟩))
theorem wpAnyL.ready {rs : List Nat} {n : Nat} {listed : Array Bool} {a : Act} {w : World} (hr : Region.ready md ops listed = rs) (hne : rs ≠ [])
  (h : AllReadyL P md ops Q S last n listed a w rs) : wpAnyL P md ops Q S last (n + 1) listed a w := ⟨fun e => absurd (hr ▸ e) hne, hr ▸ h⟩
theorem wpAnyL.done {listed : Array Bool} {a : Act} {w : World} (hr : Region.ready md ops listed = []) (h : Q .normal a w) : ∀ n, wpAnyL P md ops Q S last n listed a w
 | 0 => ⟨hr, h⟩
 | _ + 1 => ⟨fun _ => h, by rw [hr]; simp⟩
theorem wp_region_last {id : Nat} {a : Act} {w : World} (last : Nat) (hm : P.follows .mixedOrders = true) (hS : S w.drew)
  (h : S w.drew → wpAnyL P .any ops Q S last ops.size (Array.replicate ops.size false) a w.drew) : (Code.region id ops true).wp P Q a w :=
 wp_region_any hm (wpAnyL.any _ _ _ _ (h hS))
end
theorem tkL {P : Program} {ops : Array Oper} {Q : Exit → Act → World → Prop} {md : Region.Mode} {S : World → Prop} {last n : Nat} {oi : Oper} {listed : Array Bool} {a : Act} {w : World} (i : Nat) (v : Value) (d : Option Tmp) (hi : ops[i]? = some oi) (hd : oi.dst = d) (hk : (Region.noSelect ops && Region.free md ops listed i && (Region.ready md ops listed).contains i && ((waitsFor md ops i).contains last && i != last && Behind md ops listed i (waitsFor md ops i))) = true) (hQ : ∀ c a w, Q (.panic c) (a.put d v) w → Q (.panic c) a w) (hy : YieldsIf P ops S oi v a) (hS : S w) (h : wpAnyL P md ops Q S last n (listed.setIfInBounds i true) (a.put d v) w) : wpAnyL P md ops Q S last (n + 1) listed a w := by
 rw [Bool.and_eq_true, Bool.and_eq_true, Bool.and_eq_true] at hk
 exact takeRL d hi hd hk.1.1.1 hk.1.1.2 hk.1.2 hk.2 hQ hy hS h
end Go.Proofs.YtahgidkpjmecdaaGreatDoor
set_option maxRecDepth 100000
namespace Go.Proofs.YtahgidkpjmecdaaGreatDoor
open Go.RowKit
theorem zeroCells_u8 (n : Nat) : Builtin.zeroCells #[Value.int .u8 0] n = (List.replicate n (Value.int .u8 0)).toArray := by
 apply Array.ext
 ·simp [Builtin.zeroCells]
 ·intro i h1 h2
  simp [Builtin.zeroCells, Nat.mod_one]
theorem run_room_zeros {P : Program} {w : World} (t tI ty e : TypeId) (i : TypeInfo) (ht : P.underlying t = some (.slice e)) (hI : P.underlying tI = some (.int .i64)) (hi : P.info? e = some i) (hz : i.zero = some (.int .u8 0)) (hs : i.size = 1) (hb : i.bytes = 1)
  (g sLen sCap n : Nat) (cur : Array Value) (hg : w.heap[g]? = some (.cells cur e (0, 0))) (hroom : sLen + n ≤ sCap) (hfit : sLen + n ≤ cur.size) (hn : n ≤ 140737488355328) :
  (Builtin.append_ #[t, tI] ty #[.slice (some ⟨g, 0, none⟩) sLen sCap, .int .i64 (n : Int)]).run P w =
   .ok (.slice (some ⟨g, 0, none⟩) (sLen + n) sCap) (w.setRow g (cur.toList.take sLen ++ List.replicate n (Value.int .u8 0) ++ cur.toList.drop (sLen + n)).toArray) := by
 have hw : IntKind.i64.wrap (n : Int) = (n : Int) := IntWalk.i64_in _ (by omega)
 have hst := run_storeCells_at P g sLen e (List.replicate n (Value.int .u8 0)) 0 cur w hg (by simpa using hfit) (by intro u hu; rw [List.eq_of_mem_replicate hu]; rfl)
 simp only [Nat.add_zero, List.length_replicate] at hst
 have h0 : ¬ ((n : Int) < 0) := by omega
 have h48 : ¬ (281474976710656 < (n : Int)) := by omega
 have hw0 : IntKind.i64.wrap 0 = 0 := by decide
 rcases Nat.eq_zero_or_pos n with rfl | hpos
 ·simp only [Nat.add_zero] at *
  simp [Builtin.append_, run_underlying ht, run_underlying hI, sizeOf, typeInfo, hi, hs, hb, asInt, asIntOf, hw0, hroom, zeroValue, hz, Value.cells, zeroCells_u8, Addr.add_lit]
  have h2 := hst
  simp at h2
  rw [h2]
  rfl
 ·have hp : ¬ n = 0 := by omega
  have hp2 : ¬ (n : Int) ≤ 0 := by omega
  simp [Builtin.append_, run_underlying ht, run_underlying hI, sizeOf, typeInfo, hi, hs, hb, asInt, asIntOf, hw, hp, h0, h48, hroom, zeroValue, hz, Value.cells, zeroCells_u8, Addr.add_lit]
  have h2 := hst
  simp at h2
  rw [h2]
  rfl
theorem run_grow_zeros {P : Program} {w : World} (t tI ty e : TypeId) (i : TypeInfo) (ht : P.underlying t = some (.slice e)) (hI : P.underlying tI = some (.int .i64)) (hi : P.info? e = some i) (hz : i.zero = some (Value.int .u8 0)) (hs : i.size = 1) (hb : i.bytes = 1)
  (base : Option Addr) (sLen sCap n : Nat) (olds : List Value) (hold : (Builtin.firstCells 1 sLen (.slice base sLen sCap)).run P w.drew = .ok olds.toArray w.drew)
  (hg : sCap < sLen + n) (hn : sLen + n ≤ 140737488355328) (hfit : Builtin.nextslicecap (sLen + n) sCap * 1 ≤ 281474976710656) :
  (Builtin.append_ #[t, tI] ty #[.slice base sLen sCap, .int .i64 (n : Int)]).run P w =
   .ok (.slice (some ⟨w.heap.size, 0, none⟩) (sLen + n) (grownCap w (sLen + n) sCap e))
    (w.drew.alloc (.cells ((olds ++ List.replicate n (Value.int .u8 0)).toArray ++ Builtin.zeroCells #[Value.int .u8 0] (grownCap w (sLen + n) sCap e - (sLen + n))) e)) := by
 have hw : IntKind.i64.wrap (n : Int) = (n : Int) := IntWalk.i64_in _ (by omega)
 have hnr : ¬ (sLen + n ≤ sCap) := by omega
 have h63 : ¬ (9223372036854775807 < (sLen : Int)) := by omega
 have h63' : ¬ (9223372036854775807 < ((sLen : Int) + (n : Int))) := by omega
 have h48' : ¬ (281474976710656 < Builtin.nextslicecap (sLen + n) sCap) := by omega
 have h0 : ¬ ((n : Int) < 0) := by omega
 have h48 : ¬ (281474976710656 < (n : Int)) := by omega
 have hw0 : IntKind.i64.wrap 0 = 0 := by decide
 rcases Nat.eq_zero_or_pos n with rfl | hpos
 ·simp only [Nat.add_zero] at *
  simp [Builtin.append_, run_underlying ht, run_underlying hI, sizeOf, typeInfo, zeroValue, hi, hz, hs, hb, asInt, asIntOf, hw0, hnr, h63, h48', Question.forced, hold, newRow, grownCap, Value.cells, zeroCells_u8]
  all_goals (congr 2; apply Array.ext'; simp [List.append_assoc])
 ·have hp : ¬ n = 0 := by omega
  have hp2 : ¬ (n : Int) ≤ 0 := by omega
  simp [Builtin.append_, run_underlying ht, run_underlying hI, sizeOf, typeInfo, zeroValue, hi, hz, hs, hb, asInt, asIntOf, hw, hp, h0, h48, hnr, h63', h48', Question.forced, hold, newRow, grownCap, Value.cells, zeroCells_u8]
  all_goals (congr 2; apply Array.ext'; simp [List.append_assoc])
theorem exec_app {P : Program} {w w' : World} {a : Act} {op : Oper} {s x : Operand} {t u : TypeId} {v : Value} (ho : op.op = Op.call { callee := Callee.builtin Builtin.append, args := #[s, x], argTypes := #[t, u] }) {sv xv : Value} (hs : a.eval s = sv) (hx : a.eval x = xv) (hr : (Builtin.append_ #[t, u] op.type #[sv, xv]).run P w = .ok v w') : (execOp a.eval op).run P w = .ok (.value v) w' := by
 unfold execOp
 simp [ho, resolve, invoke, builtin, hs, hx, hr, Result.andThen]
theorem step_val {P : Program} {w w' : World} {ops : Array Oper} {o : Oper} {a : Act} {K : Act → World → Prop} {Q : Exit → Act → World → Prop} {E : Prop} {v : Value} (hg : o.guard = none) (hr : (execOp a.eval o).run P w = .ok (.value v) w') (h : K (a.put o.dst v) w') :
  if Region.wanted o (yielded ops a.tmps) = true then Oper.wp P o a w K Q else E := by
 have hw : Region.wanted o (yielded ops a.tmps) = true := by simp [Region.wanted, hg]
 rw [if_pos hw]
 unfold Oper.wp
 rw [hr]
 exact h
theorem wpList_val {P : Program} {w w' : World} {ops : Array Oper} {rest : List Oper} {o : Oper} {a : Act} {Q : Exit → Act → World → Prop} {v : Value} (hg : o.guard = none) (hr : (execOp a.eval o).run P w = .ok (.value v) w') (h : wpList P ops Q rest (a.put o.dst v) w') :
  wpList P ops Q (o :: rest) a w := by
 refine wpList_plain hg fun K hK => ?_
 unfold Oper.wp
 rw [hr]
 exact hK _ _ h
theorem OwnB.append {w : World} {B : Nat} {v sv : Value} {l news : List UInt8} (ho : OwnB w B v l) (hs : Byts w sv news) (hB : B ≤ w.heap.size) (hb : l.length + news.length ≤ 1000000000) (ty : TypeId) :
  ∃ v' w', (Builtin.append_ #[31, 31] ty #[v, sv]).run Tryz.prog w = .ok v' w' ∧ OwnB w' B v' (l ++ news) ∧ w.grownBy w' v.ownBlock ∧ (v'.ownBlock = v.ownBlock ∨ v'.ownBlock = some w.heap.size) := by
 obtain ⟨i0, hi, hz0, hz1, hz2⟩ := info_parts Tryz.info5
 obtain ⟨h1, a, cap, rfl, h2, h3, h4, h5⟩ := hs
 cases a with
 | none =>
  obtain rfl := h4 rfl
  have h0 : news = [] := List.eq_nil_of_length_eq_zero (by omega)
  subst h0
  have hrun := run_append_owned_none (P := Tryz.prog) (w := w) B 31 ty 5 i0 1 Tryz.underlying31 hi v l.length (l.map bv) ho
  exact ⟨v, w, hrun, by rw [List.append_nil]; exact ho, World.grownBy.refl _ _, .inl rfl⟩
 | some p =>
  obtain ⟨v', w', hr, ho', hg, -, hat⟩ := run_append_own_at (P := Tryz.prog) w B 31 ty 5 i0 _ 1 1 Tryz.underlying31 hi hz0 hz1 hz2 rfl (by decide) v l.length (l.map bv) ho p news.length cap (news.map bv) h1
   (fun j u hu => by
    obtain ⟨b, off, he, hc⟩ := h5 j u hu
    simp only [Option.some.injEq] at he
    subst he
    rw [Addr.add_lit]
    exact hc) (bv_one _) (by unfold maxLen; omega) (by omega) hB
  refine ⟨v', w', hr, ?_, hg, hat⟩
  unfold OwnB
  simpa using ho'
theorem OwnB.zeros {w : World} {B m : Nat} {v : Value} {l : List UInt8} (ho : OwnB w B v l) (hB : B ≤ w.heap.size) (hb : l.length + m ≤ 1000000000) (ty : TypeId) :
  ∃ v' w', (Builtin.append_ #[31, 3] ty #[v, .int .i64 (m : Int)]).run Tryz.prog w = .ok v' w' ∧ OwnB w' B v' (l ++ List.replicate m 0) ∧ w.grownBy w' v.ownBlock ∧ (v'.ownBlock = v.ownBlock ∨ v'.ownBlock = some w.heap.size) := by
 obtain ⟨i0, hi, hz0, hz1, hz2⟩ := info_parts Tryz.info5
 have hnews : (List.replicate m (0 : UInt8)).map bv = List.replicate m (Value.int .u8 0) := by rw [List.map_replicate]; rfl
 have hll : (l.map bv ++ List.replicate m (Value.int .u8 0)).length = l.length + m := by simp
 have hgrow : ∀ (old : Nat) (base : Option Addr), v = .slice base l.length old → old < l.length + m → (Builtin.firstCells 1 l.length (.slice base l.length old)).run Tryz.prog w.drew = .ok (l.map bv).toArray w.drew → Builtin.nextslicecap (l.length + m) old * 1 ≤ 281474976710656 →
   ∃ v' w', (Builtin.append_ #[31, 3] ty #[v, .int .i64 (m : Int)]).run Tryz.prog w = .ok v' w' ∧ OwnB w' B v' (l ++ List.replicate m 0) ∧ w.grownBy w' v.ownBlock ∧ (v'.ownBlock = v.ownBlock ∨ v'.ownBlock = some w.heap.size) := by
  intro old base hv hold hcells hfit
  subst hv
  have hr := run_grow_zeros (P := Tryz.prog) (w := w) 31 3 ty 5 i0 Tryz.underlying31 Tryz.underlying3 hi hz0 hz1 hz2 base l.length old m (l.map bv) hcells hold (by omega) hfit
  have hge := grownCap_ge w (l.length + m) old 5
  have hcm : grownCap w (l.length + m) old 5 ≤ maxLen := grownCap_le_maxLen w (l.length + m) old 5 (by unfold maxLen; omega)
  refine ⟨_, _, hr, ⟨by simp, .inr ⟨w.heap.size, grownCap w (l.length + m) old 5, _, by rw [List.length_append, List.length_replicate], hB, heap_alloc_new w.drew _, by rw [List.length_append, List.length_replicate]; exact hge, hcm, ?_, ?_⟩⟩, ⟨rfl, rfl, rfl, by simp, fun k hk _ => Go.RowKit.Below.heap_alloc w.drew _ k hk⟩, .inr rfl⟩
  ·simp only [Array.size_append, List.size_toArray, size_zeroCells, hll]
   simp
   omega
  ·rw [List.map_append, hnews, Array.toList_append, List.length_append, List.length_replicate, Nat.mul_one, ← hll]
   exact List.take_left
 have ho2 := ho
 rcases ho.2 with ⟨hv, hx⟩ | ⟨g, cap, cur, hv, hbg, hg, hnc, hcm, hcs, htake⟩
 ·have hl0 : l = [] := by simpa using hx
  subst hl0
  by_cases hm : m = 0
  ·subst hm
   subst hv
   refine ⟨.slice none 0 0, w, ?_, by simpa using ho2, World.grownBy.refl _ _, .inl rfl⟩
   have hw0 : IntKind.i64.wrap 0 = 0 := by decide
   simp [Builtin.append_, run_underlying Tryz.underlying31, run_underlying Tryz.underlying3, sizeOf, typeInfo, hi, asInt, asIntOf, hw0]
  ·refine hgrow 0 none (by simpa using hv) (by simp; omega) ?_ (by
    unfold Builtin.nextslicecap
    have hp : 0 < m := by omega
    simp [hp]
    simp at hb
    omega)
   simp [Builtin.firstCells]
 ·by_cases hroom : l.length + m ≤ cap
  ·subst hv
   have hr := run_room_zeros (P := Tryz.prog) (w := w) 31 3 ty 5 i0 Tryz.underlying31 Tryz.underlying3 hi hz0 hz1 hz2 g l.length cap m cur hg hroom (by rw [hcs]; omega) (by omega)
   refine ⟨_, _, hr, ⟨by simp, .inr ⟨g, cap, _, by rw [List.length_append, List.length_replicate], hbg, setRow_heap w g cur _ 5 _ hg, by rw [List.length_append, List.length_replicate]; exact hroom, hcm, ?_, ?_⟩⟩, ⟨rfl, rfl, rfl, by simp, fun k _ hk => setRow_other w g k _ (fun e => hk (by simp [Value.ownBlock, e]))⟩, .inl rfl⟩
   ·have := hcs
    simp only [List.size_toArray, List.length_append, List.length_take, List.length_drop, Array.length_toList, List.length_replicate]
    omega
   ·rw [Nat.mul_one] at htake
    rw [htake, List.map_append, hnews, List.length_append, List.length_replicate, Nat.mul_one, ← hll]
    exact List.take_left
  ·refine hgrow cap (some ⟨g, 0, none⟩) hv (by omega) ?_ (growslice_fits (by omega) (by omega))
   rw [hv] at ho
   have holds : ∀ j u, (l.map bv)[j]? = some u → w.drew.cell? ((⟨g, 0, none⟩ : Addr).add j) = some u := fun j u hu => by
    have := World.ownsRow.cells ho (g := g) rfl j u hu
    simpa using this
   exact run_firstCells_some w.drew 1 l.length ⟨g, 0, none⟩ l.length cap (l.map bv) (by simp) holds
theorem OBuf.wrote1 {B : Nat} {w w1 : World} {ob : Nat} {vb sv v1 : Value} {o : OB} {l : List UInt8} (q : OBuf B w ob vb sv o) (h1 : OwnB w1 B v1 l) (g1 : w.drew.grownBy w1 vb.ownBlock) (a1 : v1.ownBlock = vb.ownBlock ∨ v1.ownBlock = some w.drew.heap.size) :
  Blk w1 ob (oCells vb sv o) 148 ∧ Blk (w1.setCell ⟨ob, 0, none⟩ v1) ob (oCells v1 sv o) 148 ∧ OwnB (w1.setCell ⟨ob, 0, none⟩ v1) B v1 l ∧ OwnB (w1.setCell ⟨ob, 0, none⟩ v1) B sv o.s ∧ Mod (fun k => vb.ownBlock = some k) w w1 ∧ Mod (OS ob vb sv) w (w1.setCell ⟨ob, 0, none⟩ v1) ∧ ¬ v1.ownBlock = some ob ∧ (∀ k, v1.ownBlock = some k → sv.ownBlock ≠ some k) := by
 have hd : Mod (fun k => vb.ownBlock = some k) w w.drew := (Mod.refl _ _).drew
 have hM1 : Mod (fun k => vb.ownBlock = some k) w w1 := hd.grown g1 (fun k hk _ => hk)
 have nb : ¬ vb.ownBlock = some ob := fun e => q.b.ne q.blk (by decide) ob e rfl
 have ns : ¬ sv.ownBlock = some ob := fun e => q.s.ne q.blk (by decide) ob e rfl
 have hlt := q.blk.lt
 have n1 : ¬ v1.ownBlock = some ob := by
  rcases a1 with e | e
  ·rw [e]; exact nb
  ·rw [e]
   intro e2
   have e3 : w.heap.size = ob := Option.some.inj e2
   omega
 have b1 : Blk w1 ob (oCells vb sv o) 148 := hM1.blk q.blk nb
 have hs : Mod (fun k => k = ob) w1 (w1.setCell ⟨ob, 0, none⟩ v1) := (Mod.refl (fun k => k = ob) _).setCell (p := ⟨ob, 0, none⟩) (fun _ => rfl) _
 refine ⟨b1, b1.set 0 v1, h1.keptM hs (fun g hg e => n1 (by rw [hg, e])), (q.s.keptM hM1 (fun g hg e => q.apart g e hg)).keptM hs (fun g hg e => ns (by rw [hg, e])), hM1, (hM1.mono (fun k _ h => .inr (.inl h))).setCell (p := ⟨ob, 0, none⟩) (fun _ => .inl rfl) _, n1, fun k hk e => ?_⟩
 rcases a1 with e1 | e1
 ·exact q.apart k (e1 ▸ hk) e
 ·rw [e1] at hk
  have e3 : w.heap.size = k := Option.some.inj hk
  have := (q.s.lt k e).2
  omega
theorem OBuf.wrote {B : Nat} {w w1 w3 : World} {ob m : Nat} {vb sv v1 v2 : Value} {o : OB} {news : List UInt8} (q : OBuf B w ob vb sv o) (h1 : OwnB w1 B v1 (o.b ++ news)) (g1 : w.drew.grownBy w1 vb.ownBlock) (a1 : v1.ownBlock = vb.ownBlock ∨ v1.ownBlock = some w.drew.heap.size)
  (h2 : OwnB w3 B v2 (o.s ++ List.replicate m 0)) (g2 : (w1.setCell ⟨ob, 0, none⟩ v1).grownBy w3 sv.ownBlock) (a2 : v2.ownBlock = sv.ownBlock ∨ v2.ownBlock = some (w1.setCell ⟨ob, 0, none⟩ v1).heap.size) (hn : news.length = m) (hl : o.b.length + m ≤ 2000) :
  OC B w (w3.setCell ⟨ob, 1, none⟩ v2) ob vb sv { o with b := o.b ++ news, s := o.s ++ List.replicate m 0 } ∧ Blk w3 ob (oCells v1 sv o) 148 := by
 obtain ⟨-, b2, o1, o2, hM1, hM2, n1, hap⟩ := q.wrote1 h1 g1 a1
 have hsz : (w1.setCell ⟨ob, 0, none⟩ v1).heap.size = w1.heap.size := by simp [World.setCell]
 have hM3 : Mod (fun k => sv.ownBlock = some k) (w1.setCell ⟨ob, 0, none⟩ v1) w3 := (Mod.refl _ _).grown g2 (fun k hk _ => hk)
 have ns : ¬ sv.ownBlock = some ob := fun e => q.s.ne q.blk (by decide) ob e rfl
 have b3 : Blk w3 ob (oCells v1 sv o) 148 := hM3.blk b2 ns
 have n2 : ¬ v2.ownBlock = some ob := by
  rcases a2 with e | e
  ·rw [e]; exact ns
  ·rw [e]
   intro e2
   have e3 := Option.some.inj e2
   have := b2.lt
   omega
 have hs : Mod (fun k => k = ob) w3 (w3.setCell ⟨ob, 1, none⟩ v2) := (Mod.refl (fun k => k = ob) _).setCell (p := ⟨ob, 1, none⟩) (fun _ => rfl) _
 have o1' : OwnB w3 B v1 (o.b ++ news) := o1.keptM hM3 (fun g hg e => hap g hg e)
 have ap2 : ∀ k, v1.ownBlock = some k → v2.ownBlock ≠ some k := by
  intro k hk e
  rcases a2 with e2 | e2
  ·exact hap k hk (e2 ▸ e)
  ·rw [e2] at e
   have e3 := Option.some.inj e
   have := (o1.lt k hk).2
   omega
 have hszd : w.drew.heap.size = w.heap.size := rfl
 refine ⟨⟨v1, v2, ⟨q.at0, ?_, o1'.keptM hs (fun g hg e => n1 (by rw [hg, e])), h2.keptM hs (fun g hg e => n2 (by rw [hg, e])), ?_, ?_, q.lim, ap2⟩, ?_, ?_⟩, b3⟩
 ·exact b3.set 1 v2
 ·simp [q.len, hn]
 ·simp [hn]; exact hl
 ·have hsz3 : (w3.setCell ⟨ob, 1, none⟩ v2).heap.size = w3.heap.size := by simp [World.setCell]
  have hw1 := hM1.size
  have hw3 := hM3.size
  rintro k (rfl | hk | hk)
  ·exact .inl (.inl rfl)
  ·rcases a1 with e | e
   ·exact .inl (.inr (.inl (e ▸ hk)))
   ·rw [e] at hk
    have e3 : w.heap.size = k := Option.some.inj hk
    have := (o1'.lt k (by rw [e, ← e3]; rfl)).2
    exact .inr ⟨by omega, by omega⟩
  ·rcases a2 with e | e
   ·exact .inl (.inr (.inr (e ▸ hk)))
   ·have e3 := hk
    rw [e] at e3
    have e4 := Option.some.inj e3
    have := (h2.lt k hk).2
    exact .inr ⟨by omega, by omega⟩
 ·exact (hM2.trans' hM3 (fun i hi h => .inr (.inr h))).setCell (p := ⟨ob, 1, none⟩) (fun _ => .inl rfl) _
def WriteR (B : Nat) (w w' : World) (ob : Nat) (bv sv : Value) (o : OB) (data : List UInt8) (e : Ending) : Prop := e = .returned (.int .i64 (writeN o data : Int)) ∧ OC B w w' ob bv sv (writeO o data)
set_option maxHeartbeats 1000000 in
theorem owrite_any {B : Nat} {w : World} {ob : Nat} {vb sv dv : Value} {o : OB} {data : List UInt8} (q : OBuf B w ob vb sv o) (hd : Byts w dv data) (hdl : data.length ≤ 1000000000) :
  Calls Tryz.prog 44 #[.pointer (some ⟨ob, 0, none⟩), dv] w fun e w' => WriteR B w w' ob vb sv o data e := by
 have c2 : w.cell? ⟨ob, 2, none⟩ = some (.bool o.fin) := q.blk.cellAt 2 rfl
 cases hf : o.fin with
 | true =>
  rw [hf] at c2
  have HR : Hid (writeN o data = 0 ∧ writeO o data = o) := Lib.hid ⟨by unfold writeN; rw [hf]; rfl, by unfold writeO; rw [hf]; rfl⟩
  have HQ := Lib.hid q
  clear q hf hd hdl
  go_enter Tryz.func44, Tryz.ntmps44
  go_wp2_with fail
  go_ret
  refine ⟨by rw [HR.out.1]; rfl, ?_⟩
  rw [HR.out.2]
  exact ⟨vb, sv, HQ.out, fun k hk => .inl hk, Mod.refl _ _⟩
 | false =>
  rw [hf] at c2
  obtain ⟨da, dc, rfl, hdc, hdm, hdn⟩ := Sl.val hd
  obtain ⟨ba, bcap, rfl, hbc, -⟩ := Sl.val q.b.byts
  obtain ⟨N, hN⟩ : ∃ N, N = writeN o data := ⟨_, rfl⟩
  have hNe : N = min data.length (2000 - o.b.length) := by rw [hN]; unfold writeN; rw [hf]; rfl
  have HO : Hid (writeO o data = { o with b := o.b ++ data.take N, s := o.s ++ List.replicate N 0 } ∧ writeN o data = N) := Lib.hid ⟨by unfold writeO; rw [hf, ← hN]; rfl, hN.symm⟩
  have hbm := q.most
  have hlen := q.len
  have c0 : w.cell? ⟨ob, 0, none⟩ = some (.slice ba o.b.length bcap) := q.blk.cellAt 0 rfl
  have n1 : IntKind.i64.wrap (2000 - (o.b.length : Int)) = 2000 - (o.b.length : Int) := IntWalk.i64_in _ (by omega)
  have n2 : min (data.length : Int) (2000 - (o.b.length : Int)) = (N : Int) := by omega
  have n3 : (0 : Int) ≤ (N : Int) := by omega
  have n4 : (N : Int) ≤ 2000 := by omega
  have n5 : (o.b.length : Int) ≤ 2000 := by omega
  have n6 : N ≤ dc := by omega
  have n7 : (N : Int) ≤ (dc : Int) := by omega
  have n8 : (dc : Int) ≤ 9223372036854775807 := by unfold maxLen at hdm; omega
  have n9 : (data.length : Int) ≤ 1000000000 := by omega
  have HQ := Lib.hid q
  have HBD := Lib.hid (byts_takeO hd (top := N) (by omega))
  have HLEN : Hid (N ≤ data.length ∧ o.b.length + N ≤ 2000 ∧ o.s.length = o.b.length ∧ (data.take N).length = N) := Lib.hid ⟨by omega, by omega, hlen, by simp; omega⟩
  clear q hf hd hdl hN hNe hbm hlen hdc hdm hdn hbc
  generalize data.length = dn at *
  go_enter Tryz.func44, Tryz.ntmps44
  go_upto_region 4 with fail
  have HDR : Hid (Mod (fun _ => False) w w.drew) := Lib.hid (Mod.refl _ _).drew
  have HM0 : Hid (Mod (fun k => (Value.slice ba o.b.length bcap).ownBlock = some k) w w.drew) := Lib.hid (Mod.refl _ _).drew
  have HNE : Hid (¬ (Value.slice ba o.b.length bcap).ownBlock = some ob) := Lib.hid (fun e => HQ.out.b.ne HQ.out.blk (by decide) ob e rfl)
  have HC0 := Lib.hid c0
  clear n1 n2 c0 c2
  obtain ⟨v1, w1, hr1, ho1, hg1, ha1⟩ := OwnB.append (HQ.out.b.keptM HDR.out (fun _ _ h => h)) (HBD.out.kept HDR.out (fun _ _ h => h)) (by have := HQ.out.blk.lt; have := HQ.out.at0; have e : w.drew.heap.size = w.heap.size := rfl; omega) (by have := HLEN.out; omega) 31
  have HA := Lib.hid (And.intro ho1 (And.intro hg1 ha1))
  have HW1 := Lib.hid (HQ.out.wrote1 ho1 hg1 ha1)
  obtain ⟨v2, w3, hr2, ho2, hg2, ha2⟩ := OwnB.zeros (m := N) HW1.out.2.2.2.1 (by have := HW1.out.2.1.lt; have := HQ.out.at0; omega) (by have := HLEN.out; omega) 31
  have HW3 := Lib.hid (HQ.out.wrote ho1 hg1 ha1 ho2 hg2 ha2 HLEN.out.2.2.2 HLEN.out.2.1)
  have HR1 := Lib.hid hr1
  have HR2 := Lib.hid hr2
  obtain ⟨va, vc, rfl, -⟩ := Sl.val ho1.byts
  obtain ⟨va2, vc2, rfl, -⟩ := Sl.val ho2.byts
  obtain ⟨sa, sc, rfl, -⟩ := Sl.val HQ.out.s.byts
  clear hr1 ho1 hg1 ha1 hr2 ho2 hg2 ha2
  have HT : Hid ((data.take N).length = N) := Lib.hid HLEN.out.2.2.2
  generalize hbn : o.b.length = bn at *
  have HBN := Lib.hid hbn
  clear hbn
  generalize (o.b ++ data.take N).length = bn' at *
  generalize (o.s ++ List.replicate N 0).length = sn' at *
  generalize hsn : o.s.length = sn at *
  have HSN := Lib.hid hsn
  clear hsn
  refine wp_region_last (S := fun X => Mod (fun k => (Value.slice ba bn bcap).ownBlock = some k) w X) 11 (by kernel_rfl) HM0.out (fun hS => ?_)
  refine' tkL 0 _ (some 23) rfl rfl (by kernel_rfl) (fun _ _ _ => id) (Or.inl ⟨by rfl, fun X hX => ?_⟩) hS ?_; rotate_left
  ·go_simp; exact rfl
  (try go_frame); refine' tkL 1 _ (some 24) rfl rfl (by kernel_rfl) (fun _ _ _ => id) (Or.inl ⟨by rfl, fun X hX => ?_⟩) hS ?_; rotate_left
  ·go_simp; exact rfl
  (try go_frame); refine' tkL 2 _ (some 25) rfl rfl (by kernel_rfl) (fun _ _ _ => id) (Or.inl ⟨by rfl, fun X hX => ?_⟩) hS ?_; rotate_left
  ·go_simp; exact rfl
  (try go_frame); refine' tkL 3 _ (some 26) rfl rfl (by kernel_rfl) (fun _ _ _ => id) (Or.inl ⟨by rfl, fun X hX => ?_⟩) hS ?_; rotate_left
  ·go_simp; exact rfl
  (try go_frame); refine' tkL 4 _ (some 27) rfl rfl (by kernel_rfl) (fun _ _ _ => id) (Or.inl ⟨by rfl, fun X hX => ?_⟩) hS ?_; rotate_left
  ·have c := hX.cellAt HC0.out HNE.out; go_simp; exact rfl
  (try go_frame); refine' tkL 5 _ (some 28) rfl rfl (by kernel_rfl) (fun _ _ _ => id) (Or.inl ⟨by rfl, fun X hX => ?_⟩) hS ?_; rotate_left
  ·go_simp; exact rfl
  (try go_frame); refine' tkL 6 _ (some 29) rfl rfl (by kernel_rfl) (fun _ _ _ => id) (Or.inl ⟨by rfl, fun X hX => ?_⟩) hS ?_; rotate_left
  ·go_simp; exact rfl
  (try go_frame); refine' tkL 7 _ (some 30) rfl rfl (by kernel_rfl) (fun _ _ _ => id) (Or.inl ⟨by rfl, fun X hX => ?_⟩) hS ?_; rotate_left
  ·go_simp; exact rfl
  (try go_frame); refine wpAnyL.ready (rs := [8]) (by kernel_rfl) (by simp) ?_
  refine (AllReadyL.cons (o := ⟨some 31, _, _, _, _, none⟩) rfl (by decide) (fun K hK => ?_) AllReadyL.nil)
  refine step_val rfl (exec_app (s := .tmp 27) (x := .tmp 30) rfl rfl rfl HR1.out) ?_
  refine hK.out _ _ HW1.out.2.2.2.2.1 (fun hS => ?_)
  clear hK K
  (try go_frame); refine' tkL 9 _ (some 32) rfl rfl (by kernel_rfl) (fun _ _ _ => id) (Or.inl ⟨by rfl, fun X hX => ?_⟩) hS ?_; rotate_left
  ·go_simp; exact rfl
  (try go_frame); refine' tkL 10 _ (some 33) rfl rfl (by kernel_rfl) (fun _ _ _ => id) (Or.inl ⟨by rfl, fun X hX => ?_⟩) hS ?_; rotate_left
  ·go_simp; exact rfl
  (try go_frame); refine wpAnyL.ready (rs := [11]) (by kernel_rfl) (by simp) ?_
  refine AllReadyL.closing (o := ⟨none, _, _, _, _, none⟩) rfl (fun K hK => ?_)
  have c := HW1.out.1.cellAt 0 rfl
  have f := HW1.out.1.free 0
  go_simp
  refine hK.out _ _ ?_
  clear hK K c f
  refine wpAnyL.done (by kernel_rfl) ?_ _
  have c1 : (w1.setCell ⟨ob, 0, none⟩ (.slice va bn' vc)).cell? ⟨ob, 1, none⟩ = some (.slice sa sn sc) := HW1.out.2.1.cellAt 1 rfl
  have x1 : w3.cell? ⟨ob, 1, none⟩ = some (.slice sa sn sc) := HW3.out.2.cellAt 1 rfl
  have x2 : w3.frozen? ⟨ob, 1, none⟩ = false := HW3.out.2.free 1
  go_wp2_with (first
   | ((with_reducible refine wpList_val ?_ (exec_app (s := .tmp 38) (x := .tmp 39) ?_ ?_ ?_ HR2.out) ?_); (iterate 4 exact rfl))
   | fail)
  go_ret
  refine ⟨by rw [HO.out.2]; rfl, ?_⟩
  rw [HO.out.1, HBN.out, HSN.out]
  exact HW3.out.1
end Go.Proofs.YtahgidkpjmecdaaGreatDoor
