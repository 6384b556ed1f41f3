/- Parts of the proof: UaP UaQ UaR UaS. -/
import Derived.Test.YtahgidkpjmecdaaGreatDoorB08
import Derived.Test.YtahgidkpjmecdaaGreatDoorB19
import Derived.Test.YtahgidkpjmecdaaGreatDoorB20
import Derived.Test.YtahgidkpjmecdaaGreatDoorB26
import Derived.Defers
import Derived.Recover
set_option maxRecDepth 100000
namespace Go.Proofs.YtahgidkpjmecdaaGreatDoor
open Go.RowKit Go.Maps
theorem ses_app {W w w2 : World} (l : List Th) {sb mb : Nat} {G : Int → PM} {S : Ses} {ov : Value} {m : List Th} (h : At W w (l ++ sesTh W.heap.size sb mb G S ov :: m)) {z : Int} (hz : z ∈ S.dom) {v' : Value} {b : List UInt8} (ho : OwnO w2 W.heap.size v' b) (hM : Mod (fun k => blockOf (G z).bv = some k) w w2) (hv : ∀ k, blockOf v' = some k → blockOf (G z).bv = some k ∨ (w.heap.size ≤ k ∧ k < w2.heap.size)) :
  At W (w2.setCell ⟨(G z).pb, 0, none⟩ v') (l ++ sesTh W.heap.size sb mb (updQ G z ⟨(G z).pb, v'⟩) (withB S z b) ov :: m) := by
 have hp := (show SBf W.heap.size w sb mb G S ov from h.get l).parts z hz
 have hM2 : Mod (fun k => k = (G z).pb) w2 (w2.setCell ⟨(G z).pb, 0, none⟩ v') := (Mod.refl (fun k => k = (G z).pb) _).setCell (p := ⟨(G z).pb, 0, none⟩) (fun _ => rfl) _
 have hlt := hp.blk.lt
 have hnv : ∀ g, blockOf v' = some g → ¬ g = (G z).pb := fun g hg e => by
  rcases hv g hg with e2 | e2
  ·exact hp.ne (e ▸ e2)
  ·omega
 refine ses_part l h hz ⟨hp.at0, (hM.blk hp.blk hp.ne).set 0 _, ho.kept hM2 hnv, fun e => hnv _ e rfl⟩ rfl (fun j hj => ?_) ((hM.mono (fun k _ e => .inr e)).trans (hM2.mono (fun k _ e => .inl e)))
 rcases hj with e | e
 ·exact .inl (.inl e)
 ·exact (hv j e).imp (fun e => .inr e) (fun e => ⟨e.1, Nat.lt_of_lt_of_le e.2 hM2.size⟩)
def inS (S : Ses) (z : Int) : Ses := if z ∈ S.dom then S else S.put z prt0
def StrR (W w' : World) (sb mb tb mt : Nat) (T : Tb) (S : Ses) (L : List Ev) (m : List Th) (e : Ending) : Prop := ∃ G' GT' X' ov', e = .returned (.tuple #[]) ∧ At W w' (sesTh W.heap.size sb mb G' S ov' :: evsTh W.heap.size X' ov' L :: tabTh W.heap.size tb mt GT' T :: m)
abbrev allN : Int := 1048576
theorem bits_of {id : Nat} (hi : okId id) {r : Nat} (h : id % 4 = r) {r1 r2 : Int} (h1 : ((r % 2 : Nat) : Int) = r1) (h2 : ((r &&& 2 : Nat) : Int) = r2) : bits .and .u64 (id : Int) 1 = r1 ∧ bits .and .u64 (id : Int) 2 = r2 := by
 subst h
 exact ⟨by rw [and1 hi, ← h1, Nat.mod_mod_of_dvd id (by decide)], by rw [and2 hi, h2]⟩
set_option maxHeartbeats 2000000 in
set_option maxRecDepth 10000 in
theorem stream_skip {W w : World} (l : List Th) {sb mb tb : Nat} {G : Int → PM} {S : Ses} {ov : Value} {m : List Th} (h : At W w (l ++ sesTh W.heap.size sb mb G S ov :: m)) {id : Nat} (hi : okId id) (hk : (id % 4 = 2 ∧ S.client = true) ∨ (id % 4 = 3 ∧ S.client = false)) (hd : (id : Int) ∉ S.dom) :
  Calls Tryz.prog 38 #[.pointer (some ⟨sb, 0, none⟩), .pointer (some ⟨tb, 0, none⟩), .int .u64 (id : Int)] w fun e w' => w = w' ∧ e = .returned (.tuple #[]) := by
 have q : SBf W.heap.size w sb mb G S ov := h.get l
 have c4 : w.cell? ⟨sb, 4, none⟩ = some (.map (some mb)) := q.blk.cellAt 4 rfl
 have c0 : w.cell? ⟨sb, 0, none⟩ = some (.bool S.client) := q.blk.cellAt 0 rfl
 have hl := q.look hi
 rw [if_neg hd] at hl
 rcases hk with ⟨h1, h2⟩ | ⟨h1, h2⟩ <;> (
  first
   | obtain ⟨b1, b2⟩ := bits_of hi h1 (r1 := 0) (r2 := 2) rfl rfl
   | obtain ⟨b1, b2⟩ := bits_of hi h1 (r1 := 1) (r2 := 2) rfl rfl
  rw [h2] at c0
  clear q h h1 h2 hd b2 hi
  go_enter Tryz.func38, Tryz.ntmps38
  go_wp2_with fail
  refine bodyPost_ret (results_none rfl _ _ _) rfl ?_
  exact ⟨rfl, rfl⟩)
theorem str_of {W w' : World} {sb mb tb mt : Nat} {T : Tb} {S : Ses} {L : List Ev} {m : List Th} {G' : Int → PM} {GT' : Int → SM} {X' : Nat → Prop} {ov' : Value} (h : At W w' (sesTh W.heap.size sb mb G' S ov' :: evsTh W.heap.size X' ov' L :: tabTh W.heap.size tb mt GT' T :: m)) : StrR W w' sb mb tb mt T S L m (.returned (.tuple #[])) := ⟨G', GT', X', ov', rfl, h⟩
theorem toldS_withB (S : Ses) (z : Int) (b : List UInt8) : toldS (withB S z b) z = toldS S z := by
 unfold toldS withB
 dsimp only
 rw [updP_same, updP_twice]
theorem inS_dom (S : Ses) (z : Int) : z ∈ (inS S z).dom := by
 unfold inS
 split
 ·assumption
 ·exact mem_putD.2 (.inl rfl)
theorem inS_keeps (S : Ses) (z : Int) : (inS S z).client = S.client ∧ (inS S z).limited = S.limited ∧ (inS S z).limit = S.limit := by
 unfold inS
 split <;> exact ⟨rfl, rfl, rfl⟩
set_option maxHeartbeats 8000000 in
set_option maxRecDepth 10000 in
theorem stream_m {W w : World} {sb mb tb mt : Nat} {G : Int → PM} {S0 S' : Ses} {ov : Value} {X : Nat → Prop} {L L' : List Ev} {GT : Int → SM} {T : Tb} {m : List Th} (h : At W w (sesTh W.heap.size sb mb G S0 ov :: evsTh W.heap.size X ov L :: tabTh W.heap.size tb mt GT T :: m)) (hL : L.length ≤ 1000) (hU : UTabs W) {id : Nat} (hi : (id : Int) < 4611686018427387912) (hk : id % 4 = 0) (hm : S0.client = true → (id : Int) ∈ S0.dom) (hl : S0.dom.length ≤ 1000) (hr1 : T.read ≤ 2000000000) (hr2 : (T.m id).taken ≤ 2000000000) (hcode : codeB (rdT T id allN) id = false) (hbl : ((inS S0 id).m id).b.length + (rdB T id allN).length ≤ 100000)
  (hturn : (inS S0 id).limited = true → (inS S0 id).client = false → ((inS S0 id).m id).told = false → id < (inS S0 id).limit)
  (hend : ((((inS S0 id).m id).dropped = true ∨ (((inS S0 id).m id).dropped = false ∧ ((inS S0 id).m id).told = true)) ∧ S' = withB (inS S0 id) id [] ∧ L' = L) ∨
   (((inS S0 id).m id).dropped = false ∧ ((inS S0 id).m id).told = false ∧ rdD T id allN = true ∧ ∃ l data, ((inS S0 id).m id).b ++ rdB T id allN = secO l data ∧ packE l data = 0 ∧ S' = toldS (inS S0 id) id ∧ L' = L ++ [evO (inS S0 id).client id l data]) ∨
   (((inS S0 id).m id).dropped = false ∧ ((inS S0 id).m id).told = false ∧ rdD T id allN = false ∧ S' = withB (inS S0 id) id (((inS S0 id).m id).b ++ rdB T id allN) ∧ L' = L)) :
  Calls Tryz.prog 38 #[.pointer (some ⟨sb, 0, none⟩), .pointer (some ⟨tb, 0, none⟩), .int .u64 (id : Int)] w fun e w' => StrR W w' sb mb tb mt (rdT T id allN) S' L' m e := by
 have hok : okId id := by unfold okId; omega
 obtain ⟨b1, b2⟩ := bits_of hok hk (r1 := 0) (r2 := 0) rfl rfl
 have q : SBf W.heap.size w sb mb G S0 ov := h.get []
 have c4 : w.cell? ⟨sb, 4, none⟩ = some (.map (some mb)) := q.blk.cellAt 4 rfl
 have c0 : w.cell? ⟨sb, 0, none⟩ = some (.bool S0.client) := q.blk.cellAt 0 rfl
 have hlk := q.look hok
 have HW := Lib.hid h.le
 have HK := Lib.hid hok
 have HU := Lib.hid hU
 have HD := Lib.hid (inS_dom S0 id)
 have HH := Lib.hid (And.intro hL (And.intro hr1 (And.intro hr2 (And.intro hcode (And.intro hbl hi)))))
 have HE := Lib.hid hend
 have HT := Lib.hid hturn
 have HKE := Lib.hid (inS_keeps S0 id)
 have hd : (id : Int) ∈ S0.dom ∨ (id : Int) ∉ S0.dom := Decidable.em _
 rcases hd with hd | hd
 case' inl =>
  rw [if_pos hd] at hlk
  have e1 : inS S0 id = S0 := by unfold inS; rw [if_pos hd]
  have HX : Hid (At W w (sesTh W.heap.size sb mb G (inS S0 id) ov :: evsTh W.heap.size X ov L :: tabTh W.heap.size tb mt GT T :: m)) := Lib.hid (by rw [e1]; exact h)
  obtain ⟨c, hc⟩ : ∃ c, S0.client = c := ⟨_, rfl⟩
  have HC : Hid ((inS S0 id).client = c) := Lib.hid (HKE.out.1.trans hc)
  rw [hc] at c0
  clear q h hL hU hi hk hm hl hturn hr1 hr2 hcode hbl hend hok hd e1 hc HKE
  generalize inS S0 (id : Int) = S at *
  cases c <;> (
   go_enter Tryz.func38, Tryz.ntmps38
   go_upto_region 6 with fail)
  all_goals
   generalize w = w5 at *
   generalize G = G1 at *
   clear hlk
 case' inr =>
  rw [if_neg hd] at hlk
  have e1 : inS S0 id = S0.put id prt0 := by unfold inS; rw [if_neg hd]
  have hcl : S0.client = false := by
   cases hc : S0.client
   ·rfl
   ·exact absurd (hm hc) hd
  have c4b : (w.alloc (.cells #[.slice none 0 0, .bool false, .bool false, .bool false, .bool false, .bool false, .bool false, .bool false] 83)).cell? ⟨sb, 4, none⟩ = some (.map (some mb)) := ((Mod.refl (fun _ => False) w).alloc _).cellAt c4 (fun h => h)
  obtain ⟨w5, hr, q5, hs5, hm5⟩ := q.addNew hd hi hl prt0 rfl h.le
  have HR := Lib.hid hr
  have HX : Hid (At W w5 (sesTh W.heap.size sb mb (updQ G id ⟨w.heap.size, .slice none 0 0⟩) (inS S0 id) ov :: evsTh W.heap.size X ov L :: tabTh W.heap.size tb mt GT T :: m)) := Lib.hid (by rw [e1]; exact h.turn [] (o' := sesTh W.heap.size sb mb (updQ G id ⟨w.heap.size, .slice none 0 0⟩) (S0.put id prt0) ov) q5 hs5 (hm5.mono (fun k _ e => .inr (.inl e))))
  have hG1 : (updQ G id ⟨w.heap.size, .slice none 0 0⟩ (id : Int)).pb = w.heap.size := by rw [updQ_same]
  have HW5 : Hid (W.heap.size ≤ w5.heap.size) := Lib.hid HX.out.le
  have HC : Hid ((inS S0 id).client = false) := Lib.hid (HKE.out.1.trans hcl)
  rw [hcl] at c0
  clear q h hL hU hi hk hm hl hturn hr1 hr2 hcode hbl hend hok hd e1 hr q5 hs5 hm5 hcl HKE
  generalize inS S0 (id : Int) = S at *
  generalize hG : updQ G (id : Int) ⟨w.heap.size, .slice none 0 0⟩ = G1 at *
  have HG1 := Lib.hid hG1
  clear hG hG1
  skip <;> (
   go_enter Tryz.func38, Tryz.ntmps38
   go_upto_region 6 with (first
    | ((with_reducible refine wpList_skipr ?_ (exec_iput (m := .tmp 39) (x := .tmp 40) (v := .tmp 41) ?_ ?_ ?_ ?_ HR.out) ?_); (iterate 5 exact rfl))
    | fail))
  all_goals
   rw [← HG1.out]
   clear c4 c4b c0 hlk HW
   have HW := HW5
   clear HW5 HR HG1
 all_goals
  have qx : SBf W.heap.size w5 sb mb G1 S ov := HX.out.get []
  have hqx := qx.parts _ HD.out
  have hpx := hqx.blk
  have c7 : w5.cell? ⟨sb, 7, none⟩ = some (.int .u64 (S.limit : Int)) := qx.blk.cellAt 7 rfl
  have c8 : w5.cell? ⟨sb, 8, none⟩ = some (.bool S.limited) := qx.blk.cellAt 8 rfl
  have p6 : w5.cell? ⟨(G1 (id : Int)).pb, 6, none⟩ = some (.bool (S.m id).told) := hpx.cellAt 6 rfl
  obtain ⟨ba, bc, hbv, -⟩ := hqx.own.val
  have HBV := Lib.hid hbv
  generalize hpb : (G1 (id : Int)).pb = pb at *
  have HPB := Lib.hid hpb
  have hc5 : w5.cell? ⟨sb, 0, none⟩ = some (.bool S.client) := qx.blk.cellAt 0 rfl
  clear qx hqx hpx hbv hpb
  rw [HC.out] at hc5
  go_upto_region 8 with fail
  go_cut [87] (fun s87 wx => s87 = .bool false ∧ w5 = wx)
  case first =>
   go_wp2_with fail
   all_goals go_meet
   all_goals refine ⟨?_, rfl⟩
   all_goals first
    | rfl
    | (cases ht : (S.m id).told with
     | true => rfl
     | false => exact absurd (HT.out ‹S.limited = true› HC.out ht) (Nat.not_lt.2 ‹S.limit ≤ id›))
  case rest =>
   obtain ⟨rfl, rfl⟩ := hcut
   have HRD := Lib.hid (read_s [_, _] HX.out HK.out allN (by decide) HH.out.2.1 HH.out.2.2.1 (TS_read _ _ _ _ _ _))
   obtain ⟨rn, hrn⟩ : ∃ rn, (rdB T id allN).length = rn := ⟨_, rfl⟩
   rw [hrn] at HRD
   have HRN := Lib.hid hrn
   obtain ⟨pn, hpn⟩ : ∃ pn, (S.m id).b.length = pn := ⟨_, rfl⟩
   rw [hpn] at HBV
   have HPN := Lib.hid hpn
   have HLE : Hid (pn + rn ≤ 100000) := Lib.hid (by have := HH.out.2.2.2.2.1; omega)
   clear hrn hpn
   rcases HE.out with ⟨hab, hS', hL'⟩ | ⟨ha, hb, hdn, l, data, hsec, hpk, hS', hL'⟩ | ⟨ha, hb, hdn, hS', hL'⟩
   ·have HSL := Lib.hid (And.intro hS' hL')
    rcases hab with hab | ⟨hab, hab2⟩ <;> (
     have HAB := Lib.hid hab
     (try have HAB2 := Lib.hid hab2)
     (try clear hab2)
     clear hab hS' hL'
     go_wp2_with (first
      | (go_at_call 68; go_loud ((with_reducible refine HRD.out.mono ?_); rintro e w6 ⟨ra, rc, rfl, h6⟩; simp only [List.cons_append, List.nil_append] at h6; have h6' : At W w6 (rowTh W.heap.size (.slice ra rn rc) (rdB T id allN) :: sesTh W.heap.size sb mb G1 S ov :: evsTh W.heap.size X ov L :: tabTh W.heap.size tb mt GT (rdT T id allN) :: m) := h6; have HS6 := Lib.hid h6'; have q6 : SBf W.heap.size w6 sb mb G1 S ov := h6'.get [_]; have hp6 := q6.parts _ HD.out; have k0 : w6.cell? ⟨pb, 0, none⟩ = some (.slice ba pn bc) := (by have h7 := hp6.blk.cellAt 0 rfl; rw [HPB.out, HBV.out] at h7; exact h7); have HO6 : Hid (OwnO w6 W.heap.size (.slice ba pn bc) (S.m id).b) := Lib.hid (by have h7 := hp6.own; rw [HBV.out] at h7; exact h7); have HNE6 : Hid (¬ blockOf (.slice ba pn bc) = some pb) := Lib.hid (by have h7 := hp6.ne; rw [HBV.out, HPB.out] at h7; exact h7); have HB6 : Hid (Blk w6 pb (prtC (G1 id).bv (S.m id)) 83) := Lib.hid (by have h7 := hp6.blk; rw [HPB.out] at h7; exact h7); have HY6 : Hid (Byts w6 (.slice ra rn rc) (rdB T id allN)) := Lib.hid (OwnB.byts (h6'.get [])); clear h6 h6' q6 hp6))
      | ((with_reducible refine wpList_append_o ?_ (.tmp 115) (.tmp 116) ?_ W.heap.size (.slice ba pn bc) (S.m id).b ?_ HO6.out (.slice ra rn rc) (rdB T id allN) ?_ HY6.out ?_ ?_ ?_); (iterate 4 exact rfl); (· have := HLE.out; have := HPN.out; have := HRN.out; omega); (· exact HS6.out.le); intro a7 c7' w7 ho7 hm7 hb7; rw [HPN.out, HRN.out] at ho7 hb7; rw [HPN.out, HRN.out]; go_loud (have k7 : w7.cell? ⟨pb, 0, none⟩ = some (.slice ba pn bc) := hm7.cellAt k0 HNE6.out; have f7 : w7.frozen? ⟨pb, 0, none⟩ = false := (hm7.blk HB6.out HNE6.out).free 0; have h8 := ses_app [_] HS6.out HD.out ho7 (by rw [HBV.out]; exact hm7) (by rw [HBV.out]; exact hb7); rw [HPB.out] at h8; have h8' : At W (w7.setCell ⟨pb, 0, none⟩ (.slice a7 (pn + rn) c7')) (sesTh W.heap.size sb mb (updQ G1 id ⟨pb, .slice a7 (pn + rn) c7'⟩) (withB S id ((S.m id).b ++ rdB T id allN)) ov :: evsTh W.heap.size X ov L :: tabTh W.heap.size tb mt GT (rdT T id allN) :: m) := h8.drop; have HS8 := Lib.hid h8'; have hp8 := ((show SBf W.heap.size _ sb mb _ _ ov from h8'.get []).parts _ HD.out).blk; have HB8 : Hid (Blk (w7.setCell ⟨pb, 0, none⟩ (.slice a7 (pn + rn) c7')) pb ((prtC (G1 id).bv (S.m id)).setIfInBounds 0 (.slice a7 (pn + rn) c7')) 83) := Lib.hid ((hm7.blk HB6.out HNE6.out).set 0 _); clear h8 h8' hp8 ho7 hm7 hb7))
      | (go_at_call 69; go_loud ((have HC8 := Lib.hid (code_s [_, _] HS8.out HK.out)); rw [HH.out.2.2.2.1] at HC8; generalize hw8 : w7.setCell ⟨pb, 0, none⟩ (.slice a7 (pn + rn) c7') = w8 at *; have HW8 := Lib.hid hw8; clear hw8; (with_reducible refine HC8.out.mono ?_); rintro e w9 ⟨rfl, rfl⟩; have n3 : w8.cell? ⟨pb, 3, none⟩ = some (.bool (S.m id).dropped) := HB8.out.cellAt 3 rfl; have n6 : w8.cell? ⟨pb, 6, none⟩ = some (.bool (S.m id).told) := HB8.out.cellAt 6 rfl; have n0 : w8.cell? ⟨pb, 0, none⟩ = some (.slice a7 (pn + rn) c7') := HB8.out.cellAt 0 rfl; have m0 := HB8.out.free 0; (first | (rw [HAB.out] at n3) | skip); (first | (rw [HAB2.out] at n6) | skip)))
      | fail)
     go_end0
     have h9 := ses_nil [] HS8.out HD.out
     rw [updQ_same] at h9
     rw [withB_twice] at h9
     rw [HSL.out.1, HSL.out.2]
     exact str_of h9)
   ·have HSL := Lib.hid (And.intro hS' hL')
    have HAB := Lib.hid ha
    have HAB2 := Lib.hid hb
    have HSE := Lib.hid hsec
    have HPK := Lib.hid hpk
    rw [hdn] at HRD
    clear ha hb hdn hsec hpk hS' hL'
    go_wp2_with (first
      | (go_at_call 68; go_loud ((with_reducible refine HRD.out.mono ?_); rintro e w6 ⟨ra, rc, rfl, h6⟩; simp only [List.cons_append, List.nil_append] at h6; have h6' : At W w6 (rowTh W.heap.size (.slice ra rn rc) (rdB T id allN) :: sesTh W.heap.size sb mb G1 S ov :: evsTh W.heap.size X ov L :: tabTh W.heap.size tb mt GT (rdT T id allN) :: m) := h6; have HS6 := Lib.hid h6'; have q6 : SBf W.heap.size w6 sb mb G1 S ov := h6'.get [_]; have hp6 := q6.parts _ HD.out; have k0 : w6.cell? ⟨pb, 0, none⟩ = some (.slice ba pn bc) := (by have h7 := hp6.blk.cellAt 0 rfl; rw [HPB.out, HBV.out] at h7; exact h7); have HO6 : Hid (OwnO w6 W.heap.size (.slice ba pn bc) (S.m id).b) := Lib.hid (by have h7 := hp6.own; rw [HBV.out] at h7; exact h7); have HNE6 : Hid (¬ blockOf (.slice ba pn bc) = some pb) := Lib.hid (by have h7 := hp6.ne; rw [HBV.out, HPB.out] at h7; exact h7); have HB6 : Hid (Blk w6 pb (prtC (G1 id).bv (S.m id)) 83) := Lib.hid (by have h7 := hp6.blk; rw [HPB.out] at h7; exact h7); have HY6 : Hid (Byts w6 (.slice ra rn rc) (rdB T id allN)) := Lib.hid (OwnB.byts (h6'.get [])); clear h6 h6' q6 hp6))
      | ((with_reducible refine wpList_append_o ?_ (.tmp 115) (.tmp 116) ?_ W.heap.size (.slice ba pn bc) (S.m id).b ?_ HO6.out (.slice ra rn rc) (rdB T id allN) ?_ HY6.out ?_ ?_ ?_); (iterate 4 exact rfl); (· have := HLE.out; have := HPN.out; have := HRN.out; omega); (· exact HS6.out.le); intro a7 c7' w7 ho7 hm7 hb7; rw [HPN.out, HRN.out] at ho7 hb7; rw [HPN.out, HRN.out]; go_loud (have k7 : w7.cell? ⟨pb, 0, none⟩ = some (.slice ba pn bc) := hm7.cellAt k0 HNE6.out; have f7 : w7.frozen? ⟨pb, 0, none⟩ = false := (hm7.blk HB6.out HNE6.out).free 0; have h8 := ses_app [_] HS6.out HD.out ho7 (by rw [HBV.out]; exact hm7) (by rw [HBV.out]; exact hb7); rw [HPB.out] at h8; have h8' : At W (w7.setCell ⟨pb, 0, none⟩ (.slice a7 (pn + rn) c7')) (sesTh W.heap.size sb mb (updQ G1 id ⟨pb, .slice a7 (pn + rn) c7'⟩) (withB S id ((S.m id).b ++ rdB T id allN)) ov :: evsTh W.heap.size X ov L :: tabTh W.heap.size tb mt GT (rdT T id allN) :: m) := h8.drop; have HS8 := Lib.hid h8'; have hp8 := ((show SBf W.heap.size _ sb mb _ _ ov from h8'.get []).parts _ HD.out).blk; have HB8 : Hid (Blk (w7.setCell ⟨pb, 0, none⟩ (.slice a7 (pn + rn) c7')) pb ((prtC (G1 id).bv (S.m id)).setIfInBounds 0 (.slice a7 (pn + rn) c7')) 83) := Lib.hid ((hm7.blk HB6.out HNE6.out).set 0 _); clear h8 h8' hp8 ho7 hm7 hb7))
      | (go_at_call 69; go_loud ((have HC8 := Lib.hid (code_s [_, _] HS8.out HK.out)); rw [HH.out.2.2.2.1] at HC8; generalize hw8 : w7.setCell ⟨pb, 0, none⟩ (.slice a7 (pn + rn) c7') = w8 at *; have HW8 := Lib.hid hw8; clear hw8; (with_reducible refine HC8.out.mono ?_); rintro e w9 ⟨rfl, rfl⟩; have n3 : w8.cell? ⟨pb, 3, none⟩ = some (.bool (S.m id).dropped) := HB8.out.cellAt 3 rfl; have n6 : w8.cell? ⟨pb, 6, none⟩ = some (.bool (S.m id).told) := HB8.out.cellAt 6 rfl; have n0 : w8.cell? ⟨pb, 0, none⟩ = some (.slice a7 (pn + rn) c7') := HB8.out.cellAt 0 rfl; have m0 := HB8.out.free 0; (first | (rw [HAB.out] at n3) | skip); (first | (rw [HAB2.out] at n6) | skip)))
      | (go_at_call 71; go_loud ((have HC9 := Lib.hid (bothWays_s HS8.out HH.out.1 HU.out HD.out (l := l) (data := data) (by unfold withB; dsimp only; rw [updP_same]; exact HSE.out) HPK.out)); rw [updQ_same] at HC9; (with_reducible refine HC9.out.mono ?_); rintro e w10 ⟨G10, X10, ov10, rfl, -, h10⟩; have HS10 := Lib.hid h10; clear h10))
      | fail)
    go_end0
    have h9 := HS10.out
    rw [toldS_withB] at h9
    rw [HSL.out.1, HSL.out.2]
    exact str_of h9
   ·have HSL := Lib.hid (And.intro hS' hL')
    have HAB := Lib.hid ha
    have HAB2 := Lib.hid hb
    rw [hdn] at HRD
    clear ha hb hdn hS' hL'
    go_wp2_with (first
      | (go_at_call 68; go_loud ((with_reducible refine HRD.out.mono ?_); rintro e w6 ⟨ra, rc, rfl, h6⟩; simp only [List.cons_append, List.nil_append] at h6; have h6' : At W w6 (rowTh W.heap.size (.slice ra rn rc) (rdB T id allN) :: sesTh W.heap.size sb mb G1 S ov :: evsTh W.heap.size X ov L :: tabTh W.heap.size tb mt GT (rdT T id allN) :: m) := h6; have HS6 := Lib.hid h6'; have q6 : SBf W.heap.size w6 sb mb G1 S ov := h6'.get [_]; have hp6 := q6.parts _ HD.out; have k0 : w6.cell? ⟨pb, 0, none⟩ = some (.slice ba pn bc) := (by have h7 := hp6.blk.cellAt 0 rfl; rw [HPB.out, HBV.out] at h7; exact h7); have HO6 : Hid (OwnO w6 W.heap.size (.slice ba pn bc) (S.m id).b) := Lib.hid (by have h7 := hp6.own; rw [HBV.out] at h7; exact h7); have HNE6 : Hid (¬ blockOf (.slice ba pn bc) = some pb) := Lib.hid (by have h7 := hp6.ne; rw [HBV.out, HPB.out] at h7; exact h7); have HB6 : Hid (Blk w6 pb (prtC (G1 id).bv (S.m id)) 83) := Lib.hid (by have h7 := hp6.blk; rw [HPB.out] at h7; exact h7); have HY6 : Hid (Byts w6 (.slice ra rn rc) (rdB T id allN)) := Lib.hid (OwnB.byts (h6'.get [])); clear h6 h6' q6 hp6))
      | ((with_reducible refine wpList_append_o ?_ (.tmp 115) (.tmp 116) ?_ W.heap.size (.slice ba pn bc) (S.m id).b ?_ HO6.out (.slice ra rn rc) (rdB T id allN) ?_ HY6.out ?_ ?_ ?_); (iterate 4 exact rfl); (· have := HLE.out; have := HPN.out; have := HRN.out; omega); (· exact HS6.out.le); intro a7 c7' w7 ho7 hm7 hb7; rw [HPN.out, HRN.out] at ho7 hb7; rw [HPN.out, HRN.out]; go_loud (have k7 : w7.cell? ⟨pb, 0, none⟩ = some (.slice ba pn bc) := hm7.cellAt k0 HNE6.out; have f7 : w7.frozen? ⟨pb, 0, none⟩ = false := (hm7.blk HB6.out HNE6.out).free 0; have h8 := ses_app [_] HS6.out HD.out ho7 (by rw [HBV.out]; exact hm7) (by rw [HBV.out]; exact hb7); rw [HPB.out] at h8; have h8' : At W (w7.setCell ⟨pb, 0, none⟩ (.slice a7 (pn + rn) c7')) (sesTh W.heap.size sb mb (updQ G1 id ⟨pb, .slice a7 (pn + rn) c7'⟩) (withB S id ((S.m id).b ++ rdB T id allN)) ov :: evsTh W.heap.size X ov L :: tabTh W.heap.size tb mt GT (rdT T id allN) :: m) := h8.drop; have HS8 := Lib.hid h8'; have hp8 := ((show SBf W.heap.size _ sb mb _ _ ov from h8'.get []).parts _ HD.out).blk; have HB8 : Hid (Blk (w7.setCell ⟨pb, 0, none⟩ (.slice a7 (pn + rn) c7')) pb ((prtC (G1 id).bv (S.m id)).setIfInBounds 0 (.slice a7 (pn + rn) c7')) 83) := Lib.hid ((hm7.blk HB6.out HNE6.out).set 0 _); clear h8 h8' hp8 ho7 hm7 hb7))
      | (go_at_call 69; go_loud ((have HC8 := Lib.hid (code_s [_, _] HS8.out HK.out)); rw [HH.out.2.2.2.1] at HC8; generalize hw8 : w7.setCell ⟨pb, 0, none⟩ (.slice a7 (pn + rn) c7') = w8 at *; have HW8 := Lib.hid hw8; clear hw8; (with_reducible refine HC8.out.mono ?_); rintro e w9 ⟨rfl, rfl⟩; have n3 : w8.cell? ⟨pb, 3, none⟩ = some (.bool (S.m id).dropped) := HB8.out.cellAt 3 rfl; have n6 : w8.cell? ⟨pb, 6, none⟩ = some (.bool (S.m id).told) := HB8.out.cellAt 6 rfl; have n0 : w8.cell? ⟨pb, 0, none⟩ = some (.slice a7 (pn + rn) c7') := HB8.out.cellAt 0 rfl; have m0 := HB8.out.free 0; (first | (rw [HAB.out] at n3) | skip); (first | (rw [HAB2.out] at n6) | skip)))
      | fail)
    go_end0
    rw [HSL.out.1, HSL.out.2]
    exact str_of HS8.out
set_option maxHeartbeats 8000000 in
set_option maxRecDepth 10000 in
theorem stream_c {W w : World} {sb mb tb mt : Nat} {G : Int → PM} {S0 S' : Ses} {ov : Value} {X : Nat → Prop} {L L' : List Ev} {GT : Int → SM} {T : Tb} {m : List Th} (h : At W w (sesTh W.heap.size sb mb G S0 ov :: evsTh W.heap.size X ov L :: tabTh W.heap.size tb mt GT T :: m)) (hL : L.length ≤ 1000) (hU : UTabs W) {id : Nat} (hi : (id : Int) < 4611686018427387912) (hk : (id % 4 = 2 ∧ S0.client = false) ∨ (id % 4 = 3 ∧ S0.client = true)) (hl : S0.dom.length ≤ 1000) (hr1 : T.read ≤ 2000000000) (hr2 : (T.m id).taken ≤ 2000000000) (hcode : codeB (rdT T id allN) id = false) (hbl : ((inS S0 id).m id).b.length + (rdB T id allN).length ≤ 100000)
  (hL' : L'.length ≤ 1000) (hend : rdD T id allN = false ∧ ∃ n, ctlR n (withB (inS S0 id) id (((inS S0 id).m id).b ++ rdB T id allN)) id L = some (S', L')) :
  Calls Tryz.prog 38 #[.pointer (some ⟨sb, 0, none⟩), .pointer (some ⟨tb, 0, none⟩), .int .u64 (id : Int)] w fun e w' => StrR W w' sb mb tb mt (rdT T id allN) S' L' m e := by
 have HL' := Lib.hid hL'
 clear hL'
 have hok : okId id := by unfold okId; omega
 have q : SBf W.heap.size w sb mb G S0 ov := h.get []
 have c4 : w.cell? ⟨sb, 4, none⟩ = some (.map (some mb)) := q.blk.cellAt 4 rfl
 have c0 : w.cell? ⟨sb, 0, none⟩ = some (.bool S0.client) := q.blk.cellAt 0 rfl
 have hlk := q.look hok
 have HW := Lib.hid h.le
 have HK := Lib.hid hok
 have HU := Lib.hid hU
 have HD := Lib.hid (inS_dom S0 id)
 have HH := Lib.hid (And.intro hL (And.intro hr1 (And.intro hr2 (And.intro hcode (And.intro hbl hi)))))
 have HE := Lib.hid hend
 have HKE := Lib.hid (inS_keeps S0 id)
 have hd : (id : Int) ∈ S0.dom ∨ (id : Int) ∉ S0.dom := Decidable.em _
 rcases hd with hd | hd
 case' inl =>
  rw [if_pos hd] at hlk
  have e1 : inS S0 id = S0 := by unfold inS; rw [if_pos hd]
  have HX : Hid (At W w (sesTh W.heap.size sb mb G (inS S0 id) ov :: evsTh W.heap.size X ov L :: tabTh W.heap.size tb mt GT T :: m)) := Lib.hid (by rw [e1]; exact h)
  obtain ⟨c, hc⟩ : ∃ c, S0.client = c := ⟨_, rfl⟩
  have HC : Hid ((inS S0 id).client = c) := Lib.hid (HKE.out.1.trans hc)
  rw [hc] at c0 hk
  clear q h hL hU hi hl hr1 hr2 hcode hbl hend hok hd e1 hc HKE
  generalize inS S0 (id : Int) = S at *
  rcases hk with ⟨h1, rfl⟩ | ⟨h1, rfl⟩ <;> (
   first
    | obtain ⟨b1, b2⟩ := bits_of HK.out h1 (r1 := 0) (r2 := 2) rfl rfl
    | obtain ⟨b1, b2⟩ := bits_of HK.out h1 (r1 := 1) (r2 := 2) rfl rfl
   clear h1
   go_enter Tryz.func38, Tryz.ntmps38
   go_upto_region 6 with fail)
  all_goals
   generalize w = w5 at *
   generalize G = G1 at *
   clear hlk
 case' inr =>
  rw [if_neg hd] at hlk
  have e1 : inS S0 id = S0.put id prt0 := by unfold inS; rw [if_neg hd]
  obtain ⟨c, hcl⟩ : ∃ c, S0.client = c := ⟨_, rfl⟩
  have c4b : (w.alloc (.cells #[.slice none 0 0, .bool false, .bool false, .bool false, .bool false, .bool false, .bool false, .bool false] 83)).cell? ⟨sb, 4, none⟩ = some (.map (some mb)) := ((Mod.refl (fun _ => False) w).alloc _).cellAt c4 (fun h => h)
  obtain ⟨w5, hr, q5, hs5, hm5⟩ := q.addNew hd hi hl prt0 rfl h.le
  have HR := Lib.hid hr
  have HX : Hid (At W w5 (sesTh W.heap.size sb mb (updQ G id ⟨w.heap.size, .slice none 0 0⟩) (inS S0 id) ov :: evsTh W.heap.size X ov L :: tabTh W.heap.size tb mt GT T :: m)) := Lib.hid (by rw [e1]; exact h.turn [] (o' := sesTh W.heap.size sb mb (updQ G id ⟨w.heap.size, .slice none 0 0⟩) (S0.put id prt0) ov) q5 hs5 (hm5.mono (fun k _ e => .inr (.inl e))))
  have hG1 : (updQ G id ⟨w.heap.size, .slice none 0 0⟩ (id : Int)).pb = w.heap.size := by rw [updQ_same]
  have HW5 : Hid (W.heap.size ≤ w5.heap.size) := Lib.hid HX.out.le
  have HC : Hid ((inS S0 id).client = c) := Lib.hid (HKE.out.1.trans hcl)
  rw [hcl] at c0 hk
  clear q h hL hU hi hl hr1 hr2 hcode hbl hend hok hd e1 hr q5 hs5 hm5 hcl HKE
  generalize inS S0 (id : Int) = S at *
  generalize hG : updQ G (id : Int) ⟨w.heap.size, .slice none 0 0⟩ = G1 at *
  have HG1 := Lib.hid hG1
  clear hG hG1
  rcases hk with ⟨h1, rfl⟩ | ⟨h1, rfl⟩ <;> (
   first
    | obtain ⟨b1, b2⟩ := bits_of HK.out h1 (r1 := 0) (r2 := 2) rfl rfl
    | obtain ⟨b1, b2⟩ := bits_of HK.out h1 (r1 := 1) (r2 := 2) rfl rfl
   clear h1
   go_enter Tryz.func38, Tryz.ntmps38
   go_upto_region 6 with (first
    | ((with_reducible refine wpList_skipr ?_ (exec_iput (m := .tmp 39) (x := .tmp 40) (v := .tmp 41) ?_ ?_ ?_ ?_ HR.out) ?_); (iterate 5 exact rfl))
    | fail))
  all_goals
   rw [← HG1.out]
   clear c4 c4b c0 hlk HW
   have HW := HW5
   clear HW5 HR HG1
 all_goals
  have qx : SBf W.heap.size w5 sb mb G1 S ov := HX.out.get []
  have hqx := qx.parts _ HD.out
  have hpx := hqx.blk
  have c7 : w5.cell? ⟨sb, 7, none⟩ = some (.int .u64 (S.limit : Int)) := qx.blk.cellAt 7 rfl
  have c8 : w5.cell? ⟨sb, 8, none⟩ = some (.bool S.limited) := qx.blk.cellAt 8 rfl
  have p6 : w5.cell? ⟨(G1 (id : Int)).pb, 6, none⟩ = some (.bool (S.m id).told) := hpx.cellAt 6 rfl
  obtain ⟨ba, bc, hbv, -⟩ := hqx.own.val
  have HBV := Lib.hid hbv
  generalize hpb : (G1 (id : Int)).pb = pb at *
  have HPB := Lib.hid hpb
  have hc5 : w5.cell? ⟨sb, 0, none⟩ = some (.bool S.client) := qx.blk.cellAt 0 rfl
  clear qx hqx hpx hbv hpb
  rw [HC.out] at hc5
  have HRD := Lib.hid (read_s [_, _] HX.out HK.out allN (by decide) HH.out.2.1 HH.out.2.2.1 (TS_read _ _ _ _ _ _))
  obtain ⟨rn, hrn⟩ : ∃ rn, (rdB T id allN).length = rn := ⟨_, rfl⟩
  rw [hrn] at HRD
  have HRN := Lib.hid hrn
  obtain ⟨pn, hpn⟩ : ∃ pn, (S.m id).b.length = pn := ⟨_, rfl⟩
  rw [hpn] at HBV
  have HPN := Lib.hid hpn
  have HLE : Hid (pn + rn ≤ 100000) := Lib.hid (by have := HH.out.2.2.2.2.1; omega)
  clear hrn hpn
  obtain ⟨hdn, n, hct⟩ := HE.out
  have HCT := Lib.hid hct
  rw [hdn] at HRD
  clear hdn hct
  go_wp2_with (first
      | (go_at_call 68; go_loud ((with_reducible refine HRD.out.mono ?_); rintro e w6 ⟨ra, rc, rfl, h6⟩; simp only [List.cons_append, List.nil_append] at h6; have h6' : At W w6 (rowTh W.heap.size (.slice ra rn rc) (rdB T id allN) :: sesTh W.heap.size sb mb G1 S ov :: evsTh W.heap.size X ov L :: tabTh W.heap.size tb mt GT (rdT T id allN) :: m) := h6; have HS6 := Lib.hid h6'; have q6 : SBf W.heap.size w6 sb mb G1 S ov := h6'.get [_]; have hp6 := q6.parts _ HD.out; have k0 : w6.cell? ⟨pb, 0, none⟩ = some (.slice ba pn bc) := (by have h7 := hp6.blk.cellAt 0 rfl; rw [HPB.out, HBV.out] at h7; exact h7); have HO6 : Hid (OwnO w6 W.heap.size (.slice ba pn bc) (S.m id).b) := Lib.hid (by have h7 := hp6.own; rw [HBV.out] at h7; exact h7); have HNE6 : Hid (¬ blockOf (.slice ba pn bc) = some pb) := Lib.hid (by have h7 := hp6.ne; rw [HBV.out, HPB.out] at h7; exact h7); have HB6 : Hid (Blk w6 pb (prtC (G1 id).bv (S.m id)) 83) := Lib.hid (by have h7 := hp6.blk; rw [HPB.out] at h7; exact h7); have HY6 : Hid (Byts w6 (.slice ra rn rc) (rdB T id allN)) := Lib.hid (OwnB.byts (h6'.get [])); clear h6 h6' q6 hp6))
      | ((with_reducible refine wpList_append_o ?_ (.tmp 115) (.tmp 116) ?_ W.heap.size (.slice ba pn bc) (S.m id).b ?_ HO6.out (.slice ra rn rc) (rdB T id allN) ?_ HY6.out ?_ ?_ ?_); (iterate 4 exact rfl); (· have := HLE.out; have := HPN.out; have := HRN.out; omega); (· exact HS6.out.le); intro a7 c7' w7 ho7 hm7 hb7; rw [HPN.out, HRN.out] at ho7 hb7; rw [HPN.out, HRN.out]; go_loud (have k7 : w7.cell? ⟨pb, 0, none⟩ = some (.slice ba pn bc) := hm7.cellAt k0 HNE6.out; have f7 : w7.frozen? ⟨pb, 0, none⟩ = false := (hm7.blk HB6.out HNE6.out).free 0; have h8 := ses_app [_] HS6.out HD.out ho7 (by rw [HBV.out]; exact hm7) (by rw [HBV.out]; exact hb7); rw [HPB.out] at h8; have h8' : At W (w7.setCell ⟨pb, 0, none⟩ (.slice a7 (pn + rn) c7')) (sesTh W.heap.size sb mb (updQ G1 id ⟨pb, .slice a7 (pn + rn) c7'⟩) (withB S id ((S.m id).b ++ rdB T id allN)) ov :: evsTh W.heap.size X ov L :: tabTh W.heap.size tb mt GT (rdT T id allN) :: m) := h8.drop; have HS8 := Lib.hid h8'; have hp8 := ((show SBf W.heap.size _ sb mb _ _ ov from h8'.get []).parts _ HD.out).blk; have HB8 : Hid (Blk (w7.setCell ⟨pb, 0, none⟩ (.slice a7 (pn + rn) c7')) pb ((prtC (G1 id).bv (S.m id)).setIfInBounds 0 (.slice a7 (pn + rn) c7')) 83) := Lib.hid ((hm7.blk HB6.out HNE6.out).set 0 _); clear h8 h8' hp8 ho7 hm7 hb7))
      | (go_at_call 69; go_loud ((have HC8 := Lib.hid (code_s [_, _] HS8.out HK.out)); rw [HH.out.2.2.2.1] at HC8; generalize hw8 : w7.setCell ⟨pb, 0, none⟩ (.slice a7 (pn + rn) c7') = w8 at *; have HW8 := Lib.hid hw8; clear hw8; (with_reducible refine HC8.out.mono ?_); rintro e w9 ⟨rfl, rfl⟩; have n3 : w8.cell? ⟨pb, 3, none⟩ = some (.bool (S.m id).dropped) := HB8.out.cellAt 3 rfl; have n6 : w8.cell? ⟨pb, 6, none⟩ = some (.bool (S.m id).told) := HB8.out.cellAt 6 rfl; have n0 : w8.cell? ⟨pb, 0, none⟩ = some (.slice a7 (pn + rn) c7') := HB8.out.cellAt 0 rfl; have m0 := HB8.out.free 0; (first | (rw [HAB.out] at n3) | skip); (first | (rw [HAB2.out] at n6) | skip)))
      | (go_at_call 70; go_loud ((have HC9 := Lib.hid (oneWay_s HS8.out HD.out HCT.out HL'.out (by unfold withB; dsimp only; rw [updP_same]; have := HH.out.2.2.2.2.1; simpa using this))); rw [updQ_same] at HC9; (with_reducible refine HC9.out.mono ?_); rintro e w10 ⟨G10, X10, ov10, rfl, -, h10⟩; have HS10 := Lib.hid h10; clear h10))
      | fail)
  go_end0
  exact str_of HS10.out
def LookEnd (w : World) (b4 sb : Nat) (ov : Value) (e : Ending) (u' : FrameMode) (w' : World) : Prop := e = .returned (.tuple #[]) ∧ u' = .returning ∧ w' = (w.drew.setCell ⟨b4, 0, none⟩ ov).setCell ⟨sb, 11, none⟩ (.slice none 0 0)
set_option maxHeartbeats 2000000 in
set_option maxRecDepth 10000 in
theorem look_end {w : World} {sb mb b2 b4 n c : Nat} {a : Option Addr} {S : Ses} {x : Value} (h2 : w.cell? ⟨b2, 0, none⟩ = some (.pointer (some ⟨sb, 0, none⟩))) (hb : Blk w sb (sesC mb S (.slice a n c)) 68) (h4 : Blk w b4 #[x] 48) (hne : b2 ≠ b4) :
  CallsD Tryz.prog 35 #[.pointer (some ⟨b2, 0, none⟩), .pointer (some ⟨b4, 0, none⟩)] .returning w fun e u' w' => LookEnd w b4 sb (.slice a n c) e u' w' := by
 have H2 : Hid (w.drew.cell? ⟨b2, 0, none⟩ = some (.pointer (some ⟨sb, 0, none⟩))) := Lib.hid h2
 have HB : Hid (Blk w.drew sb (sesC mb S (.slice a n c)) 68) := Lib.hid (hb.heap rfl)
 have H4 : Hid (Blk w.drew b4 #[x] 48) := Lib.hid (h4.heap rfl)
 have HNE := Lib.hid hne
 have HN4 := Lib.hid (Blk.ne hb h4 (by decide))
 clear h2 hb h4 hne
 refine callsD_of_wpS Tryz.func35 rfl fun c₀ cs hu => ?_
 apply wpS_seq
 apply wpS_seq
 apply wpS_region
 simp [wpOpsS, go_sem, recoverD, hu, Tryz.ntmps35, Exit.thenS]
 apply wpS_seq
 apply wpS_region
 simp [wpOpsS, go_sem, Exit.thenS]
 refine wpS_cond (t := false) (by simp [Act.eval, Array.replicate]) ?_
 simp only [Bool.false_eq_true, if_false]
 refine wpS_of_wp (wp_skip ?_)
 simp only [Exit.thenS]
 refine wpS_of_wp ?_
 (try go_frame); refine wp_region_last (S := fun X => Mod (fun k => k = b4) w.drew X) 8 (by kernel_rfl) (Mod.refl _ _) (fun hS => ?_)
 generalize hW : w.drew = w2 at *
 have HW := Lib.hid hW
 clear hW
 refine' tkL 0 _ (some 29) rfl rfl (by kernel_rfl) (fun _ _ _ h => h) (Or.inl ⟨by rfl, fun X hX => ?_⟩) hS ?_; rotate_left
 ·have cc := hX.cellAt H2.out HNE.out; go_simp; exact rfl
 (try go_frame); refine' tkL 1 _ (some 30) rfl rfl (by kernel_rfl) (fun _ _ _ h => h) (Or.inl ⟨by rfl, fun X hX => ?_⟩) hS ?_; rotate_left
 ·have cc := hX.cellAt H2.out HNE.out; go_simp; exact rfl
 (try go_frame); refine' tkL 2 _ (some 31) rfl rfl (by kernel_rfl) (fun _ _ _ h => h) (Or.inl ⟨by rfl, fun X hX => ?_⟩) hS ?_; rotate_left
 ·go_simp; exact rfl
 (try go_frame); refine' tkL 3 _ (some 32) rfl rfl (by kernel_rfl) (fun _ _ _ h => h) (Or.inl ⟨by rfl, fun X hX => ?_⟩) hS ?_; rotate_left
 ·go_simp; exact rfl
 (try go_frame); refine tkL 4 (.slice a n c) (some 33) rfl rfl (by kernel_rfl) (fun _ _ _ h => h) (Or.inl ⟨by rfl, fun X hX => ?_⟩) hS ?_
 ·have cc : X.cell? ⟨sb, 11, none⟩ = some (.slice a n c) := hX.cellAt (HB.out.cellAt 11 rfl) HN4.out; go_simp
 (try go_frame); refine wpAnyL.ready (rs := [5]) (by kernel_rfl) (by simp) ?_
 refine (AllReadyL.cons (o := ⟨none, _, _, _, _, none⟩) rfl (by decide) (fun K hK => ?_) AllReadyL.nil)
 have cc := H4.out.cellAt 0 rfl
 have ff := H4.out.free 0
 go_simp
 refine hK.out _ _ (hS.setCell (p := ⟨b4, 0, none⟩) (fun _ => rfl) _) (fun hS => ?_)
 clear hK K cc ff
 (try go_frame); refine' tkL 6 _ (some 34) rfl rfl (by kernel_rfl) (fun _ _ _ h => h) (Or.inl ⟨by rfl, fun X hX => ?_⟩) hS ?_; rotate_left
 ·go_simp; exact rfl
 (try go_frame); refine' tkL 7 _ (some 35) rfl rfl (by kernel_rfl) (fun _ _ _ h => h) (Or.inl ⟨by rfl, fun X hX => ?_⟩) hS ?_; rotate_left
 ·go_simp; exact rfl
 (try go_frame); refine wpAnyL.ready (rs := [8]) (by kernel_rfl) (by simp) ?_
 refine AllReadyL.closing (o := ⟨none, _, _, _, _, none⟩) rfl (fun K hK => ?_)
 have cc := (HB.out.setOther (a := ⟨b4, 0, none⟩) HN4.out (.slice a n c)).cellAt 11 rfl
 have ff := (HB.out.setOther (a := ⟨b4, 0, none⟩) HN4.out (.slice a n c)).free 11
 go_simp
 refine hK.out _ _ ?_
 clear hK K cc ff
 refine wpAnyL.done (by kernel_rfl) ?_ _
 have he := HW.out
 subst he
 clear H2 HB H4 HNE HN4
 cases c₀
 simp_all [bodyPostS, results, Tryz.results35, LookEnd]
def LkM (id : Nat) (T : Tb) (S : Ses) (L : List Ev) (S' : Ses) (L' : List Ev) : Prop :=
 id % 4 = 0 ∧ (S.client = true → (id : Int) ∈ S.dom) ∧ ((inS S id).limited = true → (inS S id).client = false → ((inS S id).m id).told = false → id < (inS S id).limit) ∧
  (((((inS S id).m id).dropped = true ∨ (((inS S id).m id).dropped = false ∧ ((inS S id).m id).told = true)) ∧ S' = withB (inS S id) id [] ∧ L' = L) ∨
   (((inS S id).m id).dropped = false ∧ ((inS S id).m id).told = false ∧ rdD T id allN = true ∧ ∃ l data, ((inS S id).m id).b ++ rdB T id allN = secO l data ∧ packE l data = 0 ∧ S' = toldS (inS S id) id ∧ L' = L ++ [evO (inS S id).client id l data]) ∨
   (((inS S id).m id).dropped = false ∧ ((inS S id).m id).told = false ∧ rdD T id allN = false ∧ S' = withB (inS S id) id (((inS S id).m id).b ++ rdB T id allN) ∧ L' = L))
def LkC (id : Nat) (T : Tb) (S : Ses) (L : List Ev) (S' : Ses) (L' : List Ev) : Prop :=
 ((id % 4 = 2 ∧ S.client = false) ∨ (id % 4 = 3 ∧ S.client = true)) ∧ L'.length ≤ 1000 ∧ rdD T id allN = false ∧ ∃ n, ctlR n (withB (inS S id) id (((inS S id).m id).b ++ rdB T id allN)) id L = some (S', L')
def LkStep (id : Nat) (T : Tb) (S : Ses) (L : List Ev) (T' : Tb) (S' : Ses) (L' : List Ev) : Prop :=
 (((id % 4 = 2 ∧ S.client = true) ∨ (id % 4 = 3 ∧ S.client = false)) ∧ (id : Int) ∉ S.dom ∧ T' = T ∧ S' = S ∧ L' = L) ∨
 (S.dom.length ≤ 1000 ∧ T.read ≤ 2000000000 ∧ (T.m id).taken ≤ 2000000000 ∧ codeB (rdT T id allN) id = false ∧ ((inS S id).m id).b.length + (rdB T id allN).length ≤ 100000 ∧ T' = rdT T id allN ∧ (LkM id T S L S' L' ∨ LkC id T S L S' L'))
def LkSteps : List Int → Tb → Ses → List Ev → Tb → Ses → List Ev → Prop
 | [], T, S, L, T', S', L' => T' = T ∧ S' = S ∧ L' = L
 | z :: r, T, S, L, T', S', L' => ∃ T1 S1 L1, LkStep z.toNat T S L T1 S1 L1 ∧ L1.length ≤ 1000 ∧ LkSteps r T1 S1 L1 T' S' L'
theorem stream_s {W w : World} {sb mb tb mt : Nat} {G : Int → PM} {S S' : Ses} {ov : Value} {X : Nat → Prop} {L L' : List Ev} {GT : Int → SM} {T T' : Tb} {m : List Th} (h : At W w (sesTh W.heap.size sb mb G S ov :: evsTh W.heap.size X ov L :: tabTh W.heap.size tb mt GT T :: m)) (hL : L.length ≤ 1000) (hU : UTabs W) {id : Nat} (hi : (id : Int) < 4611686018427387912) (hs : LkStep id T S L T' S' L') :
  Calls Tryz.prog 38 #[.pointer (some ⟨sb, 0, none⟩), .pointer (some ⟨tb, 0, none⟩), .int .u64 (id : Int)] w fun e w' => StrR W w' sb mb tb mt T' S' L' m e := by
 rcases hs with ⟨hk, hd, rfl, rfl, rfl⟩ | ⟨h1, h2, h3, h4, h5, rfl, ⟨k1, k2, k3, k4⟩ | ⟨k1, k2, k3, k4⟩⟩
 ·refine (stream_skip [] h (by unfold okId; omega) hk hd).mono ?_
  rintro e w' ⟨rfl, rfl⟩
  exact str_of h
 ·exact stream_m h hL hU hi k1 k2 h1 h2 h3 h4 h5 k3 k4
 ·exact stream_c h hL hU hi k1 h1 h2 h3 h4 h5 k2 ⟨k3, k4⟩
def idsTh (B : Nat) (v : Value) (l : List Int) : Th := ⟨fun w => OwnU w B v l, fun k => v.ownBlock = some k, fun _ _ _ h hM hS => h.kept hM (fun g hg => hS g hg)⟩
theorem ids2_s {W w : World} (l : List Th) {tb mb : Nat} {G : Int → SM} {T : Tb} {m : List Th} (h : At W w (l ++ tabTh W.heap.size tb mb G T :: m)) (hlen : T.dom.length ≤ lenMax) :
  Calls Tryz.prog 37 #[.pointer (some ⟨tb, 0, none⟩)] w fun e w' => ∃ a c, e = .returned (.slice a (sortI T.dom).length c) ∧ At W w' (idsTh W.heap.size (.slice a (sortI T.dom).length c) (sortI T.dom) :: (l ++ tabTh W.heap.size tb mb G T :: m)) := by
 refine (ids_any (h.get l) hlen).mono ?_
 rintro e w' ⟨v, rfl, ho, hM⟩
 obtain ⟨a, c, rfl⟩ := ho.val
 exact ⟨a, c, rfl, h.push hM (idsTh W.heap.size _ _) (own_mono ho h.le) (fun k hk => World.ownsRow.lt ho k hk)⟩
theorem ses_out {W w : World} (l : List Th) {sb mb : Nat} {G : Int → PM} {S : Ses} {ov : Value} {m : List Th} (h : At W w (l ++ sesTh W.heap.size sb mb G S ov :: m)) (v : Value) : At W (w.setCell ⟨sb, 11, none⟩ v) (l ++ sesTh W.heap.size sb mb G S v :: m) := by
 have q : SBf W.heap.size w sb mb G S ov := h.get l
 have hM : Mod (fun k => k = sb) w (w.setCell ⟨sb, 11, none⟩ v) := (Mod.refl (fun k => k = sb) _).setCell (p := ⟨sb, 11, none⟩) (fun _ => rfl) _
 exact h.turn l (o' := sesTh W.heap.size sb mb G S v) (q.top (q.blk.set 11 v) hM rfl rfl q.num) (fun k hk => .inl hk) (hM.mono (fun k _ e => .inl e))
theorem blk_set {W w : World} (l : List Th) {b : Nat} {C : Array Value} {ty : TypeId} {m : List Th} (h : At W w (l ++ blkTh b C ty :: m)) (i : Nat) (v : Value) : At W (w.setCell ⟨b, i, none⟩ v) (l ++ blkTh b (C.setIfInBounds i v) ty :: m) :=
 h.turn l (o' := blkTh b (C.setIfInBounds i v) ty) (Blk.set (show Blk w b C ty from h.get l) i v) (fun _ hk => .inl hk) ((Mod.refl (fun k => k = b) _).setCell (p := ⟨b, i, none⟩) (fun _ => rfl) _)
theorem At.dull {W w : World} {l : List Th} (h : At W w l) {o : Th} (hP : o.P w) (hR : ∀ k, ¬ o.R k) : At W w (o :: l) := ⟨⟨⟨hP, fun _ hk => (hR _ hk).elim⟩, fun _ _ _ hk => (hR _ hk).elim, h.1⟩, h.2⟩
theorem drop_at {l : List Int} {k : Nat} {z : Int} (h : l[k]? = some z) : l.drop k = z :: l.drop (k + 1) := by
 obtain ⟨hlt, rfl⟩ := List.getElem?_eq_some_iff.1 h
 exact List.drop_eq_getElem_cons hlt
theorem At.mid {W w : World} {l1 l2 m : List Th} (h : At W w (l1 ++ (l2 ++ m))) : At W w (l1 ++ m) := by
 obtain ⟨a, b, c⟩ := Side.app.1 h.1
 exact ⟨Side.app.2 ⟨a, (Side.app.1 b).2.1, fun o ho p hp => c o ho p (List.mem_append_right _ hp)⟩, h.2⟩
def LookR (W w' : World) (sb mb tb mt : Nat) (T : Tb) (S : Ses) (L : List Ev) (m : List Th) (e : Ending) : Prop := ∃ G' GT' X' a c, e = .returned (.slice a L.length c) ∧ At W w' (evsTh W.heap.size X' (.slice a L.length c) L :: sesTh W.heap.size sb mb G' S (.slice none 0 0) :: tabTh W.heap.size tb mt GT' T :: m)
set_option maxHeartbeats 8000000 in
set_option maxRecDepth 10000 in
theorem look_s {W w : World} {sb mb tb mt : Nat} {G : Int → PM} {S S' : Ses} {L' : List Ev} {GT : Int → SM} {T T' : Tb} {m : List Th} (h : At W w (sesTh W.heap.size sb mb G S nilS :: tabTh W.heap.size tb mt GT T :: m)) (hU : UTabs W) (ho : S.over = false) (hlen : T.dom.length ≤ lenMax) (hs : LkSteps (sortI T.dom) T S [] T' S' L') :
  Calls Tryz.prog 16 #[.pointer (some ⟨sb, 0, none⟩), .pointer (some ⟨tb, 0, none⟩)] w fun e w' => LookR W w' sb mb tb mt T' S' L' m e := by
 have hM2 : Mod (fun _ => False) w ((w.alloc (.cells #[.pointer (some ⟨sb, 0, none⟩)] 27)).alloc (.cells #[.slice none 0 0] 48)) := ((Mod.refl _ _).alloc _).alloc _
 have e1 : (w.alloc (.cells #[.pointer (some ⟨sb, 0, none⟩)] 27)).heap.size = w.heap.size + 1 := by simp
 have e2 : ((w.alloc (.cells #[.pointer (some ⟨sb, 0, none⟩)] 27)).alloc (.cells #[.slice none 0 0] 48)).heap.size = w.heap.size + 2 := by simp
 have hb2 := (Blk.new w #[.pointer (some ⟨sb, 0, none⟩)] 27).alloc (.cells #[.slice none 0 0] 48)
 have hb4 := Blk.new (w.alloc (.cells #[.pointer (some ⟨sb, 0, none⟩)] 27)) #[.slice none 0 0] 48
 rw [e1] at hb4
 have h2 := h.new2 (a := blkTh w.heap.size #[.pointer (some ⟨sb, 0, none⟩)] 27) (b := blkTh (w.heap.size + 1) #[.slice none 0 0] 48) hM2 hb2 hb4 (fun k hk => by have : k = w.heap.size := hk; rw [e2]; omega) (fun k hk => by have : k = w.heap.size + 1 := hk; rw [e2]; omega) (fun k hk hk2 => by have h3 : k = w.heap.size := hk; have h4 : k = w.heap.size + 1 := hk2; omega)
 have HS2 := Lib.hid h2
 have HIDS : Hid (∀ z ∈ sortI T.dom, 0 ≤ z ∧ z < 4611686018427387912) := Lib.hid (fun z hz => (show TBuf W.heap.size w tb mt GT T from h.get [_]).ids z (sortI_mem.1 hz))
 have q : SBf W.heap.size w sb mb G S nilS := h.get []
 have c10 : ((w.alloc (.cells #[.pointer (some ⟨sb, 0, none⟩)] 27)).alloc (.cells #[.slice none 0 0] 48)).cell? ⟨sb, 10, none⟩ = some (.bool false) := hM2.cellAt (ho ▸ q.blk.cellAt 10 rfl) (fun h => h)
 have HST := Lib.hid hs
 have HLN := Lib.hid hlen
 have HUU := Lib.hid hU
 have HW := Lib.hid h.le
 have hmf : ∀ (fn : Fn) (first cap : Array Value) (w : World), (Instr.makeFunc fn first cap).run Tryz.prog w = .ok (.func fn first cap) w := fun _ _ _ _ => rfl
 clear h hU ho hlen hs hM2 e1 e2 hb2 hb4 h2 q
 go_enter_defers Tryz.func16, Tryz.ntmps16
 go_wp2_with (first
  | (go_at_call 37; (have HC := Lib.hid (ids2_s [_, _, _] HS2.out HLN.out)); (with_reducible refine HC.out.mono ?_); clear HC; rintro e w5 ⟨ia, ic, rfl, h5⟩; have h6 : At W w5 (sesTh W.heap.size sb mb G S nilS :: tabTh W.heap.size tb mt GT T :: idsTh W.heap.size (.slice ia (sortI T.dom).length ic) (sortI T.dom) :: blkTh w.heap.size #[.pointer (some ⟨sb, 0, none⟩)] 27 :: blkTh (w.heap.size + 1) #[.slice none 0 0] 48 :: m) := h5.perm ((List.perm_append_comm (l₁ := [idsTh W.heap.size (.slice ia (sortI T.dom).length ic) (sortI T.dom), blkTh w.heap.size #[.pointer (some ⟨sb, 0, none⟩)] 27, blkTh (w.heap.size + 1) #[.slice none 0 0] 48]) (l₂ := [sesTh W.heap.size sb mb G S nilS, tabTh W.heap.size tb mt GT T])).append_right m); have h7 := h6.dull (o := evsTh W.heap.size (fun _ => False) nilS []) (OwnEI.nil _ _ _) (fun _ h => h); have HS5 : Hid (At W w5 (sesTh W.heap.size sb mb G S nilS :: evsTh W.heap.size (fun _ => False) nilS [] :: tabTh W.heap.size tb mt GT T :: idsTh W.heap.size (.slice ia (sortI T.dom).length ic) (sortI T.dom) :: blkTh w.heap.size #[.pointer (some ⟨sb, 0, none⟩)] 27 :: blkTh (w.heap.size + 1) #[.slice none 0 0] 48 :: m)) := Lib.hid ⟨h7.1.swap, h7.2⟩; clear h5 h6 h7)
  | fail)
 obtain ⟨ids, hids⟩ : ∃ ids, sortI T.dom = ids := ⟨_, rfl⟩
 have hil := sortI_len T.dom
 rw [hids] at HIDS HST HS5 hil ⊢
 clear hids
 obtain ⟨n, hn⟩ : ∃ n, ids.length = n := ⟨_, rfl⟩
 rw [hn] at HS5 ⊢
 have HN := Lib.hid hn
 have hn1 : (n : Int) ≤ 1000 := by have h1 := HLN.out; have h2 : lenMax ≤ 1000 := (by decide); omega
 clear hn c10 hil
 go_loopw [23] (fun s23 wr => ∃ (k : Nat) (Tk : Tb) (Sk : Ses) (Lk : List Ev) (Gk : Int → PM) (GTk : Int → SM) (Xk : Nat → Prop) (ovk : Value), k ≤ n ∧ s23 = .int .i64 (k : Int) ∧ Hid (At W wr (sesTh W.heap.size sb mb Gk Sk ovk :: evsTh W.heap.size Xk ovk Lk :: tabTh W.heap.size tb mt GTk Tk :: idsTh W.heap.size (.slice ia n ic) ids :: blkTh w.heap.size #[.pointer (some ⟨sb, 0, none⟩)] 27 :: blkTh (w.heap.size + 1) #[.slice none 0 0] 48 :: m) ∧ LkSteps (ids.drop k) Tk Sk Lk T' S' L' ∧ Lk.length ≤ 1000)) (fun s23 _ => n - (intOf s23).toNat)
 case atStart => exact ⟨0, T, S, [], G, GT, _, _, Nat.zero_le _, rfl, Lib.hid ⟨HS5.out, HST.out, by decide⟩⟩
 case round =>
  obtain ⟨k, Tk, Sk, Lk, Gk, GTk, Xk, ovk, hk, rfl, HJ⟩ := hrel
  by_cases hlt : k < n
  ·have t1 : decide ((k : Int) < (n : Int)) = true := decide_eq_true (by omega)
   have t2 : decide (k < n) = true := decide_eq_true hlt
   obtain ⟨z, hz⟩ : ∃ z, ids[k]? = some z := ⟨_, List.getElem?_eq_getElem (by rw [HN.out]; exact hlt)⟩
   have hz2 := HIDS.out z (List.mem_of_getElem? hz)
   obtain ⟨zn, rfl⟩ : ∃ zn : Nat, z = (zn : Int) := ⟨z.toNat, by omega⟩
   obtain ⟨g, hg, hgc⟩ := OwnU.at (show OwnU wr W.heap.size (.slice ia n ic) ids from HJ.out.1.get [_, _, _]) hz
   have hb2 : wr.cell? ⟨w.heap.size, 0, none⟩ = some (.pointer (some ⟨sb, 0, none⟩)) := (show Blk wr w.heap.size _ _ from HJ.out.1.get [_, _, _, _]).cellAt 0 rfl
   have hst := HJ.out.2.1
   rw [drop_at hz] at hst
   obtain ⟨T1, S1, L1, hs1, hs2, hs3⟩ := hst
   rw [Int.toNat_natCast] at hs1
   have HC := Lib.hid (stream_s HJ.out.1 HJ.out.2.2 HUU.out (by omega) hs1)
   have HNX := Lib.hid (And.intro hs2 hs3)
   have HKN := Lib.hid hlt
   subst hg
   clear hz hz2 hs1 hs2 hs3 hlt
   go_wp2_with (first
    | (go_at_call 38; go_loud ((with_reducible refine HC.out.mono ?_); clear HC; rintro e w7 ⟨G7, GT7, X7, ov7, rfl, h7⟩; have HS7 := Lib.hid h7; clear h7))
    | fail)
   go_roundw
   case rel => exact ⟨k + 1, T1, S1, L1, G7, GT7, X7, ov7, by have := HKN.out; omega, by simp, Lib.hid ⟨HS7.out, HNX.out.2, HNX.out.1⟩⟩
   case measure => have := HKN.out; simp [intOf]; omega
  ·have HKN := Lib.hid (show k = n by omega)
   have t1 : decide ((k : Int) < (n : Int)) = false := decide_eq_false (by omega)
   have t2 : decide (k < n) = false := decide_eq_false hlt
   have k4 : wr.cell? ⟨w.heap.size + 1, 0, none⟩ = some (.slice none 0 0) := (show Blk wr (w.heap.size + 1) _ _ from HJ.out.1.get [_, _, _, _, _]).cellAt 0 rfl
   have f4 := (show Blk wr (w.heap.size + 1) #[.slice none 0 0] 48 from HJ.out.1.get [_, _, _, _, _]).free 0
   have HX : Hid (T' = Tk ∧ S' = Sk ∧ L' = Lk) := Lib.hid (by
    have h8 := HJ.out.2.1
    rw [HKN.out, List.drop_of_length_le (by rw [HN.out]; exact Nat.le_refl _)] at h8
    exact h8)
   obtain ⟨oa, oc, hov⟩ := (show OwnEI wr W.heap.size Xk ovk Lk from HJ.out.1.get [_]).val
   subst hov
   clear hlt
   go_wp2_with fail
   have h9 := blk_set [_, _, _, _, _] HJ.out.1 0 (.slice none 0 0)
   have q9 : SBf W.heap.size _ sb mb Gk Sk _ := h9.get []
   have hb9 : Blk _ w.heap.size #[.pointer (some ⟨sb, 0, none⟩)] 27 := h9.get [_, _, _, _]
   have hb8 : Blk _ (w.heap.size + 1) #[.slice none 0 0] 48 := h9.get [_, _, _, _, _]
   refine leaves_cons (f := 35) (args := #[.pointer (some ⟨w.heap.size, 0, none⟩), .pointer (some ⟨w.heap.size + 1, 0, none⟩)]) (by simp) (by simp [go_sem]) ?_
   refine (look_end (hb9.cellAt 0 rfl) q9.blk hb8 (by omega)).mono ?_
   rintro e u' w'' ⟨rfl, rfl, rfl⟩
   have h10 := ses_out [] (blk_set [_, _, _, _, _] (h9.still (Mod.refl _ _).drew) 0 (.slice oa Lk.length oc)) (.slice none 0 0)
   simp only [Leaves, settle]
   have h11 := At.mid (l1 := [evsTh W.heap.size Xk (.slice oa Lk.length oc) Lk, sesTh W.heap.size sb mb Gk Sk (.slice none 0 0), tabTh W.heap.size tb mt GTk Tk]) (l2 := [idsTh W.heap.size (.slice ia n ic) ids, blkTh w.heap.size #[.pointer (some ⟨sb, 0, none⟩)] 27, blkTh (w.heap.size + 1) ((#[.slice none 0 0].setIfInBounds 0 (.slice none 0 0)).setIfInBounds 0 (.slice oa Lk.length oc)) 48]) (m := m) ⟨h10.1.swap, h10.2⟩
   have c11 : (((wr.setCell ⟨w.heap.size + 1, 0, none⟩ (.slice none 0 0)).drew.setCell ⟨w.heap.size + 1, 0, none⟩ (.slice oa Lk.length oc)).setCell ⟨sb, 11, none⟩ (.slice none 0 0)).cell? ⟨w.heap.size + 1, 0, none⟩ = some (.slice oa Lk.length oc) := (show Blk _ (w.heap.size + 1) _ _ from h10.get [_, _, _, _, _]).cellAt 0 rfl
   generalize ((wr.setCell ⟨w.heap.size + 1, 0, none⟩ (.slice none 0 0)).drew.setCell ⟨w.heap.size + 1, 0, none⟩ (.slice oa Lk.length oc)).setCell ⟨sb, 11, none⟩ (.slice none 0 0) = w9 at *
   refine ⟨.slice oa Lk.length oc, results_cell Tryz.results16 _ rfl (by simp [go_sem, c11]), Gk, GTk, Xk, oa, oc, by rw [HX.out.2.2], ?_⟩
   rw [HX.out.1, HX.out.2.1, HX.out.2.2]
   exact h11
end Go.Proofs.YtahgidkpjmecdaaGreatDoor
