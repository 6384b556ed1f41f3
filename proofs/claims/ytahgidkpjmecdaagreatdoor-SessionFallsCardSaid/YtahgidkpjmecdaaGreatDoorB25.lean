/- Parts of the proof: UaM YgA YgD YgH. -/
import Derived.Test.YtahgidkpjmecdaaGreatDoorB20
import Derived.Test.YtahgidkpjmecdaaGreatDoorB21
import Derived.Test.YtahgidkpjmecdaaGreatDoorB22
import Derived.Test.YtahgidkpjmecdaaGreatDoorB23
import Derived.Test.YtahgidkpjmecdaaGreatDoorB24
set_option maxRecDepth 100000
namespace Go.Proofs.YtahgidkpjmecdaaGreatDoor
open Go.RowKit Go.Maps
def withB (S : Ses) (z : Int) (b : List UInt8) : Ses := { S with m := updP S.m z { S.m z with b := b } }
theorem updP_twice (f : Int → Prt) (z : Int) (s t : Prt) : updP (updP f z s) z t = updP f z t := by
 funext y
 unfold updP
 split <;> rfl
theorem updP_self (f : Int → Prt) (z : Int) : updP f z (f z) = f := by
 funext y
 unfold updP
 split
 ·rename_i h; rw [h]
 ·rfl
theorem withB_twice (S : Ses) (z : Int) (b c : List UInt8) : withB (withB S z b) z c = withB S z c := by
 unfold withB
 dsimp only
 rw [updP_same, updP_twice]
theorem withB_self (S : Ses) (z : Int) : withB S z (S.m z).b = S := by
 unfold withB
 have : ({ S.m z with b := (S.m z).b } : Prt) = S.m z := rfl
 rw [this, updP_self]
def ctlL : Nat → Ses → List UInt8 → Option (Ses × List UInt8 × List Ev)
 | 0, _, _ => none
 | n + 1, S, b =>
  if b = [] then some (S, [], [])
  else if (nextL b).2.2 = 2 then some (S, b, [])
  else if (nextL b).2.2 ≠ 0 ∨ (nextL b).2.1 = 0 ∨ b.length < (nextL b).2.1 then none
  else match frameS S (nextL b).1 with
   | none => none
   | some x => match ctlL n x.1 (b.drop (nextL b).2.1) with
    | none => none
    | some y => some (y.1, y.2.1, x.2 ++ y.2.2)
def firstS (S : Ses) (z : Int) : Ses := { S with control := true, m := updP S.m z { S.m z with typed := true, control := true, dropped := false } }
def ctlIn (S : Ses) (z : Int) : Option (Ses × List UInt8) :=
 if (S.m z).typed = true then (if (S.m z).dropped = true then none else some (S, (S.m z).b))
 else match (S.m z).b with
  | [] => none
  | c :: r => if c = 0 ∧ S.control = false then some (firstS S z, r) else none
def ctlR (n : Nat) (S : Ses) (z : Int) (L : List Ev) : Option (Ses × List Ev) :=
 match ctlIn S z with
 | none => none
 | some x => match ctlL n x.1 x.2 with
  | none => none
  | some y => some (withB y.1 z y.2.1, L ++ y.2.2)
theorem frameS_withB {S S1 : Ses} {f : HF} {e : List Ev} (h : frameS S f = some (S1, e)) (z : Int) (b : List UInt8) : frameS (withB S z b) f = some (withB S1 z b, e) := by
 unfold frameS at h ⊢
 split at h
 ·rename_i h1
  rw [if_pos (by exact h1)]
  split at h
  ·cases h; rename_i h2; rw [if_pos h2]; rfl
  ·cases h
 ·rename_i h1
  rw [if_neg (by exact h1)]
  split at h
  ·cases h; rename_i h2; rw [if_pos (by exact h2)]; rfl
  ·cases h
theorem frameS_keeps {S S1 : Ses} {f : HF} {e : List Ev} (h : frameS S f = some (S1, e)) : S1.dom = S.dom ∧ S1.m = S.m ∧ S1.client = S.client := by
 unfold frameS at h
 split at h
 ·split at h
  ·cases h; exact ⟨rfl, rfl, rfl⟩
  ·cases h
 ·split at h
  ·cases h; exact ⟨rfl, rfl, rfl⟩
  ·cases h
def CtlR (W w' : World) (sb mb : Nat) (z : Int) (pb : Nat) (S : Ses) (L : List Ev) (m : List Th) (e : Ending) : Prop := ∃ G' X' ov', e = .returned (.tuple #[]) ∧ (G' z).pb = pb ∧ At W w' (sesTh W.heap.size sb mb G' S ov' :: evsTh W.heap.size X' ov' L :: m)
theorem frame_s {W w : World} {sb mb : Nat} {G : Int → PM} {S S1 : Ses} {ov : Value} {X : Nat → Prop} {L e1 : List Ev} {m : List Th} (h : At W w (sesTh W.heap.size sb mb G S ov :: evsTh W.heap.size X ov L :: m)) (hl : L.length ≤ 1000) {f : HF} (hf : frameS S f = some (S1, e1)) {vs vd : Value} :
  Calls Tryz.prog 118 #[.pointer (some ⟨sb, 0, none⟩), .agg #[.int .i64 f.k, .int .u64 (f.id : Int), vs, vd], .bool false] w fun e w' => FrameR W w' sb mb G S1 (L ++ e1) m e := by
 unfold frameS at hf
 split at hf
 ·rename_i h1
  split at hf
  ·cases hf
   rename_i h2
   refine (frame_set h h1 h2).mono ?_
   rintro e w' ⟨rfl, h3⟩
   exact ⟨X, ov, rfl, by rw [List.append_nil]; exact h3⟩
  ·cases hf
 ·rename_i h1
  split at hf
  ·cases hf
   rename_i h2
   refine (frame_go h hl (by simpa using h1) h2.2.1 h2.1 rfl h2.2.2.1 h2.2.2.2.1 h2.2.2.2.2).mono ?_
   rintro e w' ⟨X', a, c, rfl, h3⟩
   exact ⟨X', _, rfl, h3⟩
  ·cases hf
theorem ses_part {W w : World} (l : List Th) {sb mb : Nat} {G : Int → PM} {S : Ses} {ov : Value} {m : List Th} (h : At W w (l ++ sesTh W.heap.size sb mb G S ov :: m)) {z : Int} (hz : z ∈ S.dom) {w' : World} {g' : PM} {p' : Prt} (hq : PBuf W.heap.size w' g' p') (hsb : g'.pb = (G z).pb) (hsub : ∀ k, PS g' k → PS (G z) k ∨ (w.heap.size ≤ k ∧ k < w'.heap.size)) (hM : Mod (PS (G z)) w w') :
  At W w' (l ++ sesTh W.heap.size sb mb (updQ G z g') { S with m := updP S.m z p' } ov :: m) := by
 have q : SBf W.heap.size w sb mb G S ov := h.get l
 refine h.turn l (o' := sesTh W.heap.size sb mb (updQ G z g') { S with m := updP S.m z p' } ov) (q.part hz hq hsb hsub hM) (fun k hk => ?_) (hM.mono (fun k _ e => .inr (.inr ⟨z, hz, e⟩)))
 rcases QS.part hk with e | e
 ·exact .inl e
 ·exact (hsub k e).imp_left (fun e => .inr (.inr ⟨z, hz, e⟩))
theorem blockOf_sliced (a : Option Addr) (k n cap s : Nat) : ∀ g, blockOf (sliced a k n cap s) = some g → blockOf (.slice a n cap) = some g := by
 intro g hg
 unfold sliced at hg
 cases a with
 | none => split at hg <;> cases hg
 | some a =>
  split at hg
  ·exact hg
  ·have e : (a.add (k * s)).block = a.block := by unfold Addr.add; split <;> rfl
   have hg' : some (a.add (k * s)).block = some g := hg
   rw [e] at hg'
   exact hg'
theorem ses_cut {W w : World} (l : List Th) {sb mb : Nat} {G : Int → PM} {S : Ses} {ov : Value} {m : List Th} (h : At W w (l ++ sesTh W.heap.size sb mb G S ov :: m)) {z : Int} (hz : z ∈ S.dom) {a : Option Addr} {n c k : Nat} (hv : (G z).bv = .slice a n c) (hk : k ≤ (S.m z).b.length) :
  At W (w.setCell ⟨(G z).pb, 0, none⟩ (sliced a k n c 1)) (l ++ sesTh W.heap.size sb mb (updQ G z ⟨(G z).pb, sliced a k n c 1⟩) (withB S z ((S.m z).b.drop k)) ov :: m) := by
 have hp := (show SBf W.heap.size w sb mb G S ov from h.get l).parts z hz
 have hM : Mod (fun k => k = (G z).pb) w (w.setCell ⟨(G z).pb, 0, none⟩ (sliced a k n c 1)) := (Mod.refl (fun k => k = (G z).pb) _).setCell (p := ⟨(G z).pb, 0, none⟩) (fun _ => rfl) _
 have ho := hp.own
 have hne := hp.ne
 rw [hv] at ho hne
 have hd := ho.drop hk
 have hs := blockOf_sliced a k n c 1
 refine ses_part l h hz ⟨hp.at0, hp.blk.set 0 _, hd.1.kept hM (fun g hg e => hne (by rw [hs g hg, e])), fun e => hne (hs _ e)⟩ rfl (fun j hj => .inl ?_) (hM.mono (fun k _ e => .inl e))
 rcases hj with e | e
 ·exact .inl e
 ·exact .inr (by rw [hv]; exact hs j e)
theorem ses_first {W w : World} (l : List Th) {sb mb : Nat} {G : Int → PM} {S : Ses} {ov : Value} {m : List Th} (h : At W w (l ++ sesTh W.heap.size sb mb G S ov :: m)) {z : Int} (hz : z ∈ S.dom) {a : Option Addr} {n c : Nat} (hv : (G z).bv = .slice a n c) (hk : 1 ≤ (S.m z).b.length) :
  At W (((((w.setCell ⟨(G z).pb, 1, none⟩ (.bool true)).setCell ⟨(G z).pb, 2, none⟩ (.bool true)).setCell ⟨(G z).pb, 3, none⟩ (.bool false)).setCell ⟨(G z).pb, 0, none⟩ (sliced a 1 n c 1)).setCell ⟨sb, 6, none⟩ (.bool true)) (l ++ sesTh W.heap.size sb mb (updQ G z ⟨(G z).pb, sliced a 1 n c 1⟩) (withB (firstS S z) z ((S.m z).b.drop 1)) ov :: m) := by
 have h1 := At.pset l h hz (i := 1) (v := .bool true) (p' := { S.m z with typed := true }) rfl rfl
 have h2 := At.pset l h1 hz (i := 2) (v := .bool true) (p' := { S.m z with typed := true, control := true }) (by dsimp only; rw [updP_same]; rfl) (by dsimp only; rw [updP_same])
 have h3 := At.pset l h2 hz (i := 3) (v := .bool false) (p' := { S.m z with typed := true, control := true, dropped := false }) (by dsimp only; rw [updP_same]; rfl) (by dsimp only; rw [updP_same])
 dsimp only at h2 h3
 rw [updP_twice] at h2
 rw [updP_twice, updP_twice] at h3
 have h4 := ses_cut l h3 hz hv (k := 1) (by dsimp only; rw [updP_same]; exact hk)
 have q4 : SBf W.heap.size _ sb mb _ _ ov := h4.get l
 have h5 := ses_top l h4 (S' := withB (firstS S z) z ((S.m z).b.drop 1)) ((Mod.refl (fun k => k = sb) _).setCell (p := ⟨sb, 6, none⟩) (fun _ => rfl) (.bool true)) (q4.blk.set 6 (.bool true)) rfl (by
  unfold withB firstS
  dsimp only
  rw [updP_same]) q4.num
 exact h5
def lenW (w : World) (pb : Nat) : Nat := match w.cell? ⟨pb, 0, none⟩ with
 | some (.slice _ n _) => n
 | _ => 0
theorem lenW_eq {w : World} {pb n c : Nat} {a : Option Addr} (h : w.cell? ⟨pb, 0, none⟩ = some (.slice a n c)) : lenW w pb = n := by
 unfold lenW
 rw [h]
theorem lenW_ses {B : Nat} {w : World} {sb mb : Nat} {G : Int → PM} {S : Ses} {ov : Value} (q : SBf B w sb mb G S ov) {z : Int} (hz : z ∈ S.dom) {pb : Nat} (hp : (G z).pb = pb) : lenW w pb = (S.m z).b.length := by
 have hq := q.parts z hz
 obtain ⟨a, c, hv, -⟩ := hq.own.val
 have h1 := hq.blk.cellAt 0 rfl
 rw [hp, hv] at h1
 exact lenW_eq h1
theorem hfr_one (a b : Int) (sa : Option Addr) (sn sc : Nat) (da : Option Addr) (dn dc : Nat) : ∀ v ∈ (#[Value.int .i64 a, .int .u64 b, .slice sa sn sc, .slice da dn dc]).toList, v.oneCell' = true := by
 intro v hv
 simp at hv
 rcases hv with rfl | rfl | rfl | rfl <;> rfl
theorem ctlL_step {n : Nat} {S : Ses} {b : List UInt8} {R : Ses × List UInt8 × List Ev} (h : ctlL (n + 1) S b = some R) (hb : b ≠ []) (h2 : (nextL b).2.2 ≠ 2) :
  (nextL b).2.2 = 0 ∧ 1 ≤ (nextL b).2.1 ∧ (nextL b).2.1 ≤ b.length ∧ ∃ S1 e1 S2 b2 e2, frameS S (nextL b).1 = some (S1, e1) ∧ ctlL n S1 (b.drop (nextL b).2.1) = some (S2, b2, e2) ∧ R = (S2, b2, e1 ++ e2) := by
 rw [ctlL, if_neg hb, if_neg h2] at h
 split at h
 ·cases h
 ·rename_i h3
  split at h
  ·cases h
  ·rename_i x hx
   split at h
   ·cases h
   ·rename_i y hy
    cases h
    refine ⟨by omega, by omega, by omega, x.1, x.2, y.1, y.2.1, y.2.2, hx, hy, rfl⟩
theorem hnext_o {w : World} {v : Value} {b : List UInt8} (h : Byts w v b) (hl : (b.length : Int) ≤ 100000) :
  Calls Tryz.prog 117 #[v] w fun e w' => ∃ sa sn sc da dn dc, e = .returned (.tuple #[.agg #[.int .i64 (nextL b).1.k, .int .u64 ((nextL b).1.id : Int), .slice sa sn sc, .slice da dn dc], .int .i64 ((nextL b).2.1 : Int), .int .i64 (nextL b).2.2]) ∧ Mod (fun _ => False) w w' := by
 refine (hnext_any h hl).mono ?_
 rintro e w' ⟨vs, vd, rfl, hf, hM⟩
 obtain ⟨sa, sc, rfl, -⟩ := set_val hf.st
 obtain ⟨da, dc, rfl, -⟩ := Sl.val hf.d
 exact ⟨_, _, _, _, _, _, rfl, hM⟩
theorem ctlIn_cases {S : Ses} {z : Int} {x : Ses × List UInt8} (h : ctlIn S z = some x) : ((S.m z).typed = true ∧ (S.m z).dropped = false ∧ x = (S, (S.m z).b)) ∨ (∃ r, (S.m z).typed = false ∧ (S.m z).b = 0 :: r ∧ S.control = false ∧ x = (firstS S z, r)) := by
 unfold ctlIn at h
 split at h
 ·rename_i ht
  split at h
  ·cases h
  ·rename_i hd
   cases h
   exact .inl ⟨ht, by simpa using hd, rfl⟩
 ·rename_i ht
  split at h
  ·cases h
  ·rename_i c0 r hbr
   split at h
   ·rename_i hc0
    cases h
    exact .inr ⟨r, by simpa using ht, by rw [hbr, hc0.1], hc0.2, rfl⟩
   ·cases h
set_option maxHeartbeats 8000000 in
set_option maxRecDepth 10000 in
theorem oneWay_in {W w : World} {sb mb : Nat} {G : Int → PM} {S : Ses} {ov : Value} {X : Nat → Prop} {L : List Ev} {m : List Th} (h : At W w (sesTh W.heap.size sb mb G S ov :: evsTh W.heap.size X ov L :: m)) {z : Int} (hz : z ∈ S.dom) {n : Nat} {x : Ses × List UInt8} {y : Ses × List UInt8 × List Ev} (hcl : ctlL n x.1 x.2 = some y) (hL : (L ++ y.2.2).length ≤ 1000) (hb : (S.m z).b.length ≤ 100000) (hin : ((S.m z).typed = true ∧ (S.m z).dropped = false ∧ x = (S, (S.m z).b)) ∨ (∃ r, (S.m z).typed = false ∧ (S.m z).b = 0 :: r ∧ S.control = false ∧ x = (firstS S z, r))) :
  Calls Tryz.prog 70 #[.pointer (some ⟨sb, 0, none⟩), .pointer (some ⟨(G z).pb, 0, none⟩), .bool false] w fun e w' => CtlR W w' sb mb z (G z).pb (withB y.1 z y.2.1) (L ++ y.2.2) m e := by
 have q : SBf W.heap.size w sb mb G S ov := h.get []
 have hp := q.parts z hz
 obtain ⟨a, c, hv, hnc⟩ := hp.own.val
 have p0 : w.cell? ⟨(G z).pb, 0, none⟩ = some (.slice a (S.m z).b.length c) := hv ▸ hp.blk.cellAt 0 rfl
 have p1 : w.cell? ⟨(G z).pb, 1, none⟩ = some (.bool (S.m z).typed) := hp.blk.cellAt 1 rfl
 have p3 : w.cell? ⟨(G z).pb, 3, none⟩ = some (.bool (S.m z).dropped) := hp.blk.cellAt 3 rfl
 rcases hin with ⟨ht, hd, hx⟩ | ⟨r, ht, hbr, hctl, hx⟩
 case' inl =>
  rw [ht] at p1
  rw [hd] at p3
  rw [hx] at hcl
  obtain ⟨pb, hpb⟩ : ∃ pb, (G z).pb = pb := ⟨_, rfl⟩
  rw [hpb] at p0 p1 p3 ⊢
  obtain ⟨G0, S0, b0, HX⟩ : ∃ (G0 : Int → PM) (S0 : Ses) (b0 : List UInt8), Hid (At W w (sesTh W.heap.size sb mb G0 (withB S0 z b0) ov :: evsTh W.heap.size X ov L :: m) ∧ (G0 z).pb = pb ∧ ctlL n S0 b0 = some y ∧ z ∈ S0.dom ∧ b0.length ≤ 100000) := ⟨G, S, (S.m z).b, Lib.hid ⟨by rw [withB_self]; exact h, hpb, hcl, hz, hb⟩⟩
  clear q hp hv hnc ht hd hx hcl hb h hz hpb
  go_enter Tryz.func70, Tryz.ntmps70
  go_wp2_with fail
  clear p0 p1 p3
 case' inr =>
  rw [ht] at p1
  rw [hx] at hcl
  have HS := Lib.hid h
  have HZ := Lib.hid hz
  have hs6 : w.cell? ⟨sb, 6, none⟩ = some (.bool false) := hctl ▸ q.blk.cellAt 6 rfl
  have hbl : 1 ≤ (S.m z).b.length := by rw [hbr]; simp
  obtain ⟨g, off, c', hv2, hg1, hg2, hgc⟩ := Sl.addr hp.own.byts (by rw [hbr]; simp)
  rw [hv] at hv2
  simp only [Value.slice.injEq] at hv2
  obtain ⟨rfl, -, rfl⟩ := hv2
  have g0 : w.cell? ⟨g, off, none⟩ = some (.int .u8 0) := hgc 0 _ (by rw [hbr]; rfl)
  have hgp : ¬ g = (G z).pb := fun e => hp.ne (by rw [hv, ← e]; rfl)
  have HPS := Lib.hid (fun w1 (hm : Mod (fun _ => False) w w1) => ses_first [] (h.still hm) hz hv hbl)
  obtain ⟨a1, c1, he1⟩ : ∃ a1 c1, sliced (some ⟨g, off, none⟩) 1 (S.m z).b.length c 1 = .slice a1 ((S.m z).b.length - 1) c1 := ⟨_, _, rfl⟩
  rw [he1] at HPS
  have HSE := Lib.hid he1
  have HBG := Lib.hid hbl
  have HS6 := Lib.hid (show w.drew.cell? ⟨sb, 6, none⟩ = some (.bool false) from hs6)
  have HSB := Lib.hid (q.blk.heap (w' := w.drew) rfl)
  have HNE := Lib.hid (fun (e : sb = (G z).pb) => (q.tops z hz _ (.inl e)).1 rfl)
  have HBL := Lib.hid hp.blk
  obtain ⟨pb, hpb⟩ : ∃ pb, (G z).pb = pb := ⟨_, rfl⟩
  have HPB := Lib.hid hpb
  rw [hpb] at p0 p1 p3 hgp HPS HBL HNE ⊢
  have HG0 := Lib.hid g0
  have HP0 := Lib.hid p0
  have HGP := Lib.hid hgp
  generalize hbn : (S.m z).b.length = bn at *
  have HBN := Lib.hid hbn
  have HBR := Lib.hid hbr
  have HCL := Lib.hid hcl
  have HBB := Lib.hid hb
  clear q hp hv hnc ht hbr hctl he1 hgc hpb hbn h hz hcl hb hx
  go_enter Tryz.func70, Tryz.ntmps70
  go_upto_region 1 with fail
  refine wp_region_held_drew (S := fun X => Mod (fun k => k = pb) w.drew X ∧ X.cell? ⟨pb, 0, none⟩ = some (.slice (some ⟨g, off, none⟩) bn c)) (by kernel_rfl) ⟨Mod.refl _ _, HP0.out⟩ (fun hS => ?_)
  generalize hW2 : w.drew = w2 at *
  have HW2 := Lib.hid hW2
  clear hW2 hs6 g0
  have HGC : Hid (w2.cell? ⟨g, off, none⟩ = some (.int .u8 0)) := Lib.hid (by rw [← HW2.out]; exact HG0.out)
  refine' tk 0 _ (some 22) rfl rfl (by kernel_rfl) (fun _ _ _ h => h) (Or.inl ⟨by rfl, fun X hX => ?_⟩) hS ?_; rotate_left
  ·go_simp; exact rfl
  (try go_frame); refine' tk 1 _ (some 23) rfl rfl (by kernel_rfl) (fun _ _ _ h => h) (Or.inl ⟨by rfl, fun X hX => ?_⟩) hS ?_; rotate_left
  ·go_simp; exact rfl
  (try go_frame); refine' tk 2 _ (some 24) rfl rfl (by kernel_rfl) (fun _ _ _ h => h) (Or.inl ⟨by rfl, fun X hX => ?_⟩) hS ?_; rotate_left
  ·go_simp; exact rfl
  (try go_frame); refine' tk 3 _ (some 25) rfl rfl (by kernel_rfl) (fun _ _ _ h => h) (Or.inl ⟨by rfl, fun X hX => ?_⟩) hS ?_; rotate_left
  ·go_simp; exact rfl
  (try go_frame); refine' tk 4 _ (some 26) rfl rfl (by kernel_rfl) (fun _ _ _ h => h) (Or.inl ⟨by rfl, fun X hX => ?_⟩) hS ?_; rotate_left
  ·go_simp; exact rfl
  (try go_frame); refine' tk 5 _ (some 27) rfl rfl (by kernel_rfl) (fun _ _ _ h => h) (Or.inl ⟨by rfl, fun X hX => ?_⟩) hS ?_; rotate_left
  ·go_simp; exact rfl
  (try go_frame); refine' tk 6 _ (some 28) rfl rfl (by kernel_rfl) (fun _ _ _ h => h) (Or.inl ⟨by rfl, fun X hX => ?_⟩) hS ?_; rotate_left
  ·have c := hX.2; go_simp; exact rfl
  (try go_frame); refine' tk 7 _ (some 29) rfl rfl (by kernel_rfl) (fun _ _ _ h => h) (Or.inl ⟨by rfl, fun X hX => ?_⟩) hS ?_; rotate_left
  ·go_simp; exact rfl
  (try go_frame); refine' tk 8 _ (some 30) rfl rfl (by kernel_rfl) (fun _ _ _ h => h) (Or.inl ⟨by rfl, fun X hX => ?_⟩) hS ?_; rotate_left
  ·have c := hX.1.cellAt HGC.out HGP.out; go_simp; exact rfl
  (try go_frame); refine' tk 9 _ (some 31) rfl rfl (by kernel_rfl) (fun _ _ _ h => h) (Or.inl ⟨by rfl, fun X hX => ?_⟩) hS ?_; rotate_left
  ·go_simp; exact rfl
  (try go_frame); refine' tk 10 _ (some 32) rfl rfl (by kernel_rfl) (fun _ _ _ h => h) (Or.inl ⟨by rfl, fun X hX => ?_⟩) hS ?_; rotate_left
  ·go_simp; exact rfl
  (try go_frame); refine' tk 11 _ (some 33) rfl rfl (by kernel_rfl) (fun _ _ _ h => h) (Or.inl ⟨by rfl, fun X hX => ?_⟩) hS ?_; rotate_left
  ·go_simp; exact rfl
  (try go_frame); refine' tk 12 _ (some 34) rfl rfl (by kernel_rfl) (fun _ _ _ h => h) (Or.inl ⟨by rfl, fun X hX => ?_⟩) hS ?_; rotate_left
  ·go_simp; exact rfl
  (try go_frame); refine' tk 13 _ (some 35) rfl rfl (by kernel_rfl) (fun _ _ _ h => h) (Or.inl ⟨by rfl, fun X hX => ?_⟩) hS ?_; rotate_left
  ·have c := hX.2; go_simp; exact rfl
  (try go_frame); refine' tk 14 _ (some 36) rfl rfl (by kernel_rfl) (fun _ _ _ h => h) (Or.inl ⟨by rfl, fun X hX => ?_⟩) hS ?_; rotate_left
  ·go_simp; exact rfl
  (try go_frame); refine' tk 15 _ (some 37) rfl rfl (by kernel_rfl) (fun _ _ _ h => h) (Or.inl ⟨by rfl, fun X hX => ?_⟩) hS ?_; rotate_left
  ·have c := hX.1.cellAt HGC.out HGP.out; go_simp; exact rfl
  (try go_frame); refine' tk 16 _ (some 38) rfl rfl (by kernel_rfl) (fun _ _ _ h => h) (Or.inl ⟨by rfl, fun X hX => ?_⟩) hS ?_; rotate_left
  ·go_simp; exact rfl
  (try go_frame); refine' tk 17 _ (some 39) rfl rfl (by kernel_rfl) (fun _ _ _ h => h) (Or.inl ⟨by rfl, fun X hX => ?_⟩) hS ?_; rotate_left
  ·go_simp; exact rfl
  (try go_frame); refine' tk 18 _ (some 40) rfl rfl (by kernel_rfl) (fun _ _ _ h => h) (Or.inl ⟨by rfl, fun X hX => ?_⟩) hS ?_; rotate_left
  ·go_simp; exact rfl
  (try go_frame); refine wpAnyH_ready (rs := [19]) (by kernel_rfl) (by simp) ?_
  refine arH (o := ⟨none, _, _, _, _, none⟩) rfl fun K hK => ?_
  have cc := ((HBL.out.heap (by rw [← HW2.out]; rfl) : Blk w2 pb (prtC (G z).bv (S.m z)) 83)).cellAt 1 rfl
  have f := ((HBL.out.heap (by rw [← HW2.out]; rfl) : Blk w2 pb (prtC (G z).bv (S.m z)) 83)).free 1
  go_simp
  refine hK.out _ _ ⟨hS.1.setCell (p := ⟨pb, 1, none⟩) (fun _ => rfl) _, (World.cell?_setCell_other _ ⟨pb, 1, none⟩ ⟨pb, 0, none⟩ _ (by simp)).trans hS.2⟩ (fun hS => ?_)
  clear hK K cc f
  (try go_frame); refine' tk 20 _ (some 41) rfl rfl (by kernel_rfl) (fun _ _ _ h => h) (Or.inl ⟨by rfl, fun X hX => ?_⟩) hS ?_; rotate_left
  ·go_simp; exact rfl
  (try go_frame); refine' tk 21 _ (some 42) rfl rfl (by kernel_rfl) (fun _ _ _ h => h) (Or.inl ⟨by rfl, fun X hX => ?_⟩) hS ?_; rotate_left
  ·go_simp; exact rfl
  (try go_frame); refine wpAnyH_ready (rs := [22]) (by kernel_rfl) (by simp) ?_
  refine arH (o := ⟨none, _, _, _, _, none⟩) rfl fun K hK => ?_
  have cc := (((HBL.out.heap (by rw [← HW2.out]; rfl) : Blk w2 pb (prtC (G z).bv (S.m z)) 83).set 1 (.bool true))).cellAt 2 rfl
  have f := (((HBL.out.heap (by rw [← HW2.out]; rfl) : Blk w2 pb (prtC (G z).bv (S.m z)) 83).set 1 (.bool true))).free 2
  go_simp
  refine hK.out _ _ ⟨hS.1.setCell (p := ⟨pb, 2, none⟩) (fun _ => rfl) _, (World.cell?_setCell_other _ ⟨pb, 2, none⟩ ⟨pb, 0, none⟩ _ (by simp)).trans hS.2⟩ (fun hS => ?_)
  clear hK K cc f
  (try go_frame); refine' tk 23 _ (some 43) rfl rfl (by kernel_rfl) (fun _ _ _ h => h) (Or.inl ⟨by rfl, fun X hX => ?_⟩) hS ?_; rotate_left
  ·go_simp; exact rfl
  (try go_frame); refine' tk 24 _ (some 44) rfl rfl (by kernel_rfl) (fun _ _ _ h => h) (Or.inl ⟨by rfl, fun X hX => ?_⟩) hS ?_; rotate_left
  ·go_simp; exact rfl
  (try go_frame); refine wpAnyH_ready (rs := [25]) (by kernel_rfl) (by simp) ?_
  refine arH (o := ⟨none, _, _, _, _, none⟩) rfl fun K hK => ?_
  have cc := ((((HBL.out.heap (by rw [← HW2.out]; rfl) : Blk w2 pb (prtC (G z).bv (S.m z)) 83).set 1 (.bool true)).set 2 (.bool true))).cellAt 3 rfl
  have f := ((((HBL.out.heap (by rw [← HW2.out]; rfl) : Blk w2 pb (prtC (G z).bv (S.m z)) 83).set 1 (.bool true)).set 2 (.bool true))).free 3
  go_simp
  refine hK.out _ _ ⟨hS.1.setCell (p := ⟨pb, 3, none⟩) (fun _ => rfl) _, (World.cell?_setCell_other _ ⟨pb, 3, none⟩ ⟨pb, 0, none⟩ _ (by simp)).trans hS.2⟩ (fun hS => ?_)
  clear hK K cc f
  (try go_frame); refine wpAnyH_done (by kernel_rfl) ?_ _
  have HB3 : Hid (Blk (((w2.setCell ⟨pb, 1, none⟩ (.bool true)).setCell ⟨pb, 2, none⟩ (.bool true)).setCell ⟨pb, 3, none⟩ (.bool false)) pb ((((prtC (G z).bv (S.m z)).setIfInBounds 1 (.bool true)).setIfInBounds 2 (.bool true)).setIfInBounds 3 (.bool false)) 83) := Lib.hid ((((HBL.out.heap (by rw [← HW2.out]; rfl) : Blk w2 pb (prtC (G z).bv (S.m z)) 83).set 1 _).set 2 _).set 3 _)
  have m6 : (((w2.setCell ⟨pb, 1, none⟩ (.bool true)).setCell ⟨pb, 2, none⟩ (.bool true)).setCell ⟨pb, 3, none⟩ (.bool false)).cell? ⟨sb, 6, none⟩ = some (.bool false) := hS.1.cellAt HS6.out HNE.out
  have m0 := hS.2
  have m2 : (((w2.setCell ⟨pb, 1, none⟩ (.bool true)).setCell ⟨pb, 2, none⟩ (.bool true)).setCell ⟨pb, 3, none⟩ (.bool false)).cell? ⟨pb, 2, none⟩ = some (.bool true) := HB3.out.cellAt 2 rfl
  have m1 : (((w2.setCell ⟨pb, 1, none⟩ (.bool true)).setCell ⟨pb, 2, none⟩ (.bool true)).setCell ⟨pb, 3, none⟩ (.bool false)).cell? ⟨pb, 1, none⟩ = some (.bool true) := HB3.out.cellAt 1 rfl
  have m3 : (((w2.setCell ⟨pb, 1, none⟩ (.bool true)).setCell ⟨pb, 2, none⟩ (.bool true)).setCell ⟨pb, 3, none⟩ (.bool false)).cell? ⟨pb, 3, none⟩ = some (.bool false) := HB3.out.cellAt 3 rfl
  have z0 := HB3.out.free 0
  have z6 := hS.1.blk HSB.out HNE.out |>.free 6
  have HPSQ := Lib.hid (HPS.out w2 (by rw [← HW2.out]; exact (Mod.refl _ _).drew))
  have hne : ¬ pb = sb := fun e => HNE.out e.symm
  generalize ((w2.setCell ⟨pb, 1, none⟩ (.bool true)).setCell ⟨pb, 2, none⟩ (.bool true)).setCell ⟨pb, 3, none⟩ (.bool false) = W3 at *
  go_wp2_with (first
   | ((with_reducible refine wpList_slice_o ?_ (.tmp 49) (.const (.int .i64 1)) ?_ (some ⟨g, off, none⟩) bn c 1 ?_ ?_ HBG.out _ HSE.out ?_); (iterate 4 exact rfl))
   | fail)
  obtain ⟨w0, G0, S0, b0, hw0, HX⟩ : ∃ (w0 : World) (G0 : Int → PM) (S0 : Ses) (b0 : List UInt8), ((W3.setCell ⟨pb, 0, none⟩ (.slice a1 (bn - 1) c1)).setCell ⟨sb, 6, none⟩ (.bool true)) = w0 ∧ Hid (At W w0 (sesTh W.heap.size sb mb G0 (withB S0 z b0) ov :: evsTh W.heap.size X ov L :: m) ∧ (G0 z).pb = pb ∧ ctlL n S0 b0 = some y ∧ z ∈ S0.dom ∧ b0.length ≤ 100000) := ⟨_, updQ G z ⟨pb, .slice a1 (bn - 1) c1⟩, firstS S z, r, rfl, Lib.hid ⟨by
   have h1 := HPSQ.out
   rw [HBR.out] at h1
   exact h1, by rw [updQ_same], HCL.out, HZ.out, by have h1 := HBN.out; have h2 := HBB.out; rw [HBR.out] at h1; simp at h1; omega⟩⟩
  rw [hw0]
  clear hw0 m0 m1 m2 m3 m6 z0 z6 hne hS p0 p1 p3 hgp
 all_goals
  go_loopw [7] (fun s7 wr => ∃ x7 : Value, s7 = x7 ∧ ∃ (k : Nat) (Sk : Ses) (bk : List UInt8) (Gk : Int → PM) (Xk : Nat → Prop) (ovk : Value) (Lk ek : List Ev), Hid (At W wr (sesTh W.heap.size sb mb Gk (withB Sk z bk) ovk :: evsTh W.heap.size Xk ovk Lk :: m) ∧ (Gk z).pb = pb ∧ ctlL k Sk bk = some (y.1, y.2.1, ek) ∧ Lk ++ ek = L ++ y.2.2 ∧ z ∈ Sk.dom ∧ bk.length ≤ 100000)) (fun _ wr => lenW wr pb)
  case atStart => exact ⟨_, rfl, n, S0, b0, G0, X, ov, L, y.2.2, Lib.hid ⟨HX.out.1, HX.out.2.1, HX.out.2.2.1, rfl, HX.out.2.2.2.1, HX.out.2.2.2.2⟩⟩
  case round =>
   obtain ⟨x7, rfl, k, Sk, bk, Gk, Xk, ovk, Lk, ek, HJ⟩ := hrel
   have qk : SBf W.heap.size wr sb mb Gk (withB Sk z bk) ovk := HJ.out.1.get []
   have hpk := qk.parts z HJ.out.2.2.2.2.1
   have ebk : ((withB Sk z bk).m z).b = bk := by unfold withB; dsimp only; rw [updP_same]
   obtain ⟨ak, ck, hvk, -⟩ := hpk.own.val
   rw [ebk] at hvk
   have HVK := Lib.hid hvk
   have p0 : wr.cell? ⟨pb, 0, none⟩ = some (.slice ak bk.length ck) := by
    have h1 := hpk.blk.cellAt 0 rfl
    rw [HJ.out.2.1, hvk] at h1
    exact h1
   have HLW := Lib.hid (lenW_eq p0)
   cases k with
   | zero => exact absurd HJ.out.2.2.1 (by rw [ctlL]; simp)
   | succ k =>
    by_cases hb0 : bk = []
    ·have HE : Hid (y.1 = Sk ∧ y.2.1 = bk ∧ ek = []) := Lib.hid (by
      have h1 := HJ.out.2.2.1
      rw [ctlL, if_pos hb0] at h1
      simp only [Option.some.injEq, Prod.mk.injEq] at h1
      exact ⟨h1.1.symm, h1.2.1 ▸ hb0.symm ▸ rfl, h1.2.2.symm⟩)
     subst hb0
     clear qk hpk ebk hvk
     go_wp2_with fail
     go_end0
     refine ⟨Gk, Xk, ovk, rfl, HJ.out.2.1, ?_⟩
     have h4 := HJ.out.2.2.2.1
     rw [HE.out.2.2, List.append_nil] at h4
     rw [← h4, HE.out.1, HE.out.2.1]
     exact HJ.out.1
    ·have hlk : (bk.length : Int) ≤ 100000 := by have := HJ.out.2.2.2.2.2; omega
     have hpos : 0 < bk.length := by
      cases bk with
      | nil => exact absurd rfl hb0
      | cons _ _ => simp
     have HN := Lib.hid (hnext_o (w := wr) (v := .slice ak bk.length ck) (b := bk) (by have h1 := hpk.own.byts; rw [ebk, hvk] at h1; exact h1) hlk)
     have HPW := Lib.hid (show pb < wr.heap.size by have := hpk.blk.lt; rw [HJ.out.2.1] at this; exact this)
     have HEB := Lib.hid ebk
     by_cases h2 : (nextL bk).2.2 = 2
     ·have HE : Hid (y.1 = Sk ∧ y.2.1 = bk ∧ ek = []) := Lib.hid (by
       have h1 := HJ.out.2.2.1
       rw [ctlL, if_neg hb0, if_pos h2] at h1
       simp only [Option.some.injEq, Prod.mk.injEq] at h1
       exact ⟨h1.1.symm, h1.2.1.symm, h1.2.2.symm⟩)
      rw [h2] at HN
      generalize hbl : bk.length = bl at *
      have HBL2 := Lib.hid hbl
      clear qk hpk ebk hvk hb0 h2 hbl
      go_wp2_with (first
       | (go_at_call 117; (with_reducible refine HN.out.mono ?_); rintro e w1 ⟨sa, sn, sc, da, dn, dc, rfl, hm⟩; have HM1 := Lib.hid hm; clear hm)
       | ((with_reducible refine wpList_store_blk ?_ 77 (.tmp 6) (.tmp 104) ?_ w1.heap.size ?_ #[.int .i64 0, .int .u64 0, .slice none 0 0, .slice none 0 0] #[.int .i64 (nextL bk).1.k, .int .u64 ((nextL bk).1.id : Int), .slice sa sn sc, .slice da dn dc] ?_ 77 (Blk.new _ _ _) (size26 _ _ _ _) rfl (hfr_one _ _ _ _ _ _ _ _) ?_); (iterate 4 exact rfl); intro w2 hB2 hM2; have HM2 := Lib.hid hM2; clear hB2 hM2)
       | fail)
      go_end0
      refine ⟨Gk, Xk, ovk, rfl, HJ.out.2.1, ?_⟩
      have h4 := HJ.out.2.2.2.1
      rw [HE.out.2.2, List.append_nil] at h4
      rw [← h4, HE.out.1, HE.out.2.1]
      exact HJ.out.1.still ((HM1.out.trans ((Mod.refl _ _).alloc _)).trans' HM2.out (fun i hi e => by have := HM1.out.size; omega))
     ·obtain ⟨he0, hn1, hn2, S1, e1, S2, b2, e2, hfr, hct, hy⟩ := ctlL_step HJ.out.2.2.1 hb0 h2
      simp only [Prod.mk.injEq] at hy
      obtain ⟨nn, hnn⟩ : ∃ nn, (nextL bk).2.1 = nn := ⟨_, rfl⟩
      rw [hnn] at hn1 hn2 hct
      rw [he0, hnn] at HN
      obtain ⟨a1, c1, he1⟩ : ∃ a1 c1, sliced ak nn bk.length ck 1 = .slice a1 (bk.length - nn) c1 := ⟨_, _, rfl⟩
      have HCUT := Lib.hid (fun w2 (hm : Mod (fun _ => False) wr w2) => ses_cut [] (HJ.out.1.still hm) HJ.out.2.2.2.2.1 hvk (k := nn) (by rw [ebk]; exact hn2))
      rw [he1, ebk, HJ.out.2.1, withB_twice] at HCUT
      have HSE := Lib.hid he1
      have HN2 := Lib.hid hn2
      have HN1 := Lib.hid hn1
      have HFR := Lib.hid (frameS_withB hfr z (bk.drop nn))
      have HKP := Lib.hid (frameS_keeps hfr)
      have HCT := Lib.hid hct
      have HY := Lib.hid hy
      have HLL : Hid (Lk.length ≤ 1000) := Lib.hid (by have h4 := congrArg List.length HJ.out.2.2.2.1; simp only [List.length_append] at h4 hL; omega)
      generalize hbl : bk.length = bl at *
      have HBL2 := Lib.hid hbl
      have HPB := Lib.hid HJ.out.2.1
      have nn0 : (0 : Int) ≤ (nn : Int) := by omega
      clear qk hpk ebk hvk hb0 h2 hbl he0 hn1 hn2 hfr hct hy hnn he1
      go_wp2_with (first
       | (go_at_call 117; (with_reducible refine HN.out.mono ?_); rintro e w1 ⟨sa, sn, sc, da, dn, dc, rfl, hm⟩; have HM1 := Lib.hid hm; clear hm)
       | ((with_reducible refine wpList_store_blk ?_ 77 (.tmp 6) (.tmp 104) ?_ w1.heap.size ?_ #[.int .i64 0, .int .u64 0, .slice none 0 0, .slice none 0 0] #[.int .i64 (nextL bk).1.k, .int .u64 ((nextL bk).1.id : Int), .slice sa sn sc, .slice da dn dc] ?_ 77 (Blk.new _ _ _) (size26 _ _ _ _) rfl (hfr_one _ _ _ _ _ _ _ _) ?_); (iterate 4 exact rfl); intro w2 hB2 hM2; have HM2 : Hid (Mod (fun _ => False) wr w2) := Lib.hid ((HM1.out.trans ((Mod.refl _ _).alloc _)).trans' hM2 (fun i hi e => by have := HM1.out.size; omega)); have HB2 := Lib.hid hB2; have HSZ := Lib.hid HM1.out.size; have m0 : w2.cell? ⟨pb, 0, none⟩ = some (.slice ak bl ck) := HM2.out.cellAt p0 (fun h => h); have z0 : w2.frozen? ⟨pb, 0, none⟩ = false := (show SBf W.heap.size w2 sb mb Gk (withB Sk z bk) ovk from (HJ.out.1.still HM2.out).get []).parts z HJ.out.2.2.2.2.1 |>.blk |> (fun b => HPB.out ▸ b.free 0); have HC3 := Lib.hid (HCUT.out w2 HM2.out); have HB3 := Lib.hid (HB2.out.setOther (a := ⟨pb, 0, none⟩) (fun e => by have := HPW.out; have := HSZ.out; dsimp only at e; omega) (.slice a1 (bl - nn) c1)); clear hB2 hM2)
       | ((with_reducible refine wpList_slice_o ?_ (.tmp 117) (.tmp 118) ?_ ak bl ck nn ?_ ?_ HN2.out _ HSE.out ?_); (iterate 4 exact rfl))
       | ((with_reducible refine wpList_load_blk ?_ 77 (.tmp 6) ?_ w1.heap.size ?_ #[.int .i64 (nextL bk).1.k, .int .u64 ((nextL bk).1.id : Int), .slice sa sn sc, .slice da dn dc] 77 _ HB3.out Tryz.underlying77 ?_ (size26 _ _ _ _) ?_); (iterate 4 exact rfl))
       | (go_at_call 118; (have HC := Lib.hid (frame_s HC3.out HLL.out HFR.out (vs := .slice sa sn sc) (vd := .slice da dn dc))); (with_reducible refine HC.out.mono ?_); clear HC; rintro e w4 ⟨X4, ov4, rfl, h4⟩; have HS4 := Lib.hid h4; clear h4)
       | fail)
      go_roundw
      case rel => exact ⟨_, rfl, k, S1, bk.drop nn, _, X4, ov4, Lk ++ e1, e2, Lib.hid ⟨HS4.out, by rw [updQ_same], by rw [HY.out.1, HY.out.2.1]; exact HCT.out, by have h4 := HJ.out.2.2.2.1; rw [HY.out.2.2] at h4; rw [List.append_assoc]; exact h4, by rw [HKP.out.1]; exact HJ.out.2.2.2.2.1, by have := HJ.out.2.2.2.2.2; rw [List.length_drop, HBL2.out]; omega⟩⟩
      case measure =>
       have h5 := lenW_ses (HS4.out.get []) (z := z) (by rw [show (withB S1 z (bk.drop nn)).dom = Sk.dom from HKP.out.1]; exact HJ.out.2.2.2.2.1) (pb := pb) (by rw [updQ_same])
       rw [show ((withB S1 z (bk.drop nn)).m z).b = bk.drop nn by unfold withB; dsimp only; rw [updP_same]] at h5
       rw [h5, HLW.out, List.length_drop, HBL2.out]
       have := HN1.out
       have := HN2.out
       omega
set_option maxHeartbeats 8000000 in
set_option maxRecDepth 10000 in
theorem oneWay_s {W w : World} {sb mb : Nat} {G : Int → PM} {S S' : Ses} {ov : Value} {X : Nat → Prop} {L L' : List Ev} {m : List Th} (h : At W w (sesTh W.heap.size sb mb G S ov :: evsTh W.heap.size X ov L :: m)) {z : Int} (hz : z ∈ S.dom) {n : Nat} (hr : ctlR n S z L = some (S', L')) (hL : L'.length ≤ 1000) (hb : (S.m z).b.length ≤ 100000) :
  Calls Tryz.prog 70 #[.pointer (some ⟨sb, 0, none⟩), .pointer (some ⟨(G z).pb, 0, none⟩), .bool false] w fun e w' => CtlR W w' sb mb z (G z).pb S' L' m e := by
 unfold ctlR at hr
 cases hci : ctlIn S z with
 | none => rw [hci] at hr; cases hr
 | some x =>
  rw [hci] at hr
  dsimp only at hr
  cases hcl : ctlL n x.1 x.2 with
  | none => rw [hcl] at hr; cases hr
  | some y =>
   rw [hcl] at hr
   cases hr
   exact oneWay_in h hz hcl hL hb (ctlIn_cases hci)
end Go.Proofs.YtahgidkpjmecdaaGreatDoor
set_option maxRecDepth 100000
namespace Go.Proofs.YtahgidkpjmecdaaGreatDoor
theorem bytes_put (b more : List UInt8) : RS.bytes ⟨b ++ more, 0⟩ b.length = (b, ⟨more, 0⟩) := by
 unfold RS.bytes
 rw [if_neg (by simp), if_neg (by simp)]
 simp
theorem hint_put (n : Nat) (more : List UInt8) (h : n ≤ htopN) : RS.int ⟨putL n ++ more, 0⟩ = (n, ⟨more, 0⟩) := int_putL n more (by unfold htopN at h; omega)
end Go.Proofs.YtahgidkpjmecdaaGreatDoor
set_option maxRecDepth 100000
namespace Go.Proofs.YtahgidkpjmecdaaGreatDoor
theorem readSet_put : ∀ (l : List (Nat × Nat)) (n : Nat) (acc : List (Nat × Nat)), l.length ≤ n → (∀ s ∈ l, s.1 ≤ htopN ∧ s.2 ≤ htopN) → readSetL n acc ⟨setL l, 0⟩ = (acc ++ l, ⟨[], 0⟩)
 | [], n, acc, _, _ => by
  cases n with
  | zero => simp [readSetL, setL]
  | succ n => simp [readSetL, setL]
 | s :: l, 0, acc, h, _ => by simp at h
 | s :: l, n + 1, acc, h, ho => by
  have hs := ho s (by simp)
  have e : setL (s :: l) = putL s.1 ++ (putL s.2 ++ setL l) := by simp [setL]
  have hp := hputL_pos s.1 hs.1
  unfold readSetL
  rw [if_neg (by rw [e]; simp only; intro h0; rw [List.append_eq_nil_iff] at h0; rw [h0.1] at hp; simp at hp), e, hint_put s.1 _ hs.1]
  simp only
  rw [hint_put s.2 _ hs.2]
  simp only
  rw [readSet_put l n (acc ++ [(s.1, s.2)]) (by simpa using h) (fun x hx => ho x (by simp [hx]))]
  simp
theorem okSet_le {l : List (Nat × Nat)} (h : settingsB l = true) : l.length ≤ 16 ∧ freshB l = true ∧ ∀ s ∈ l, s.1 ≤ htopN ∧ s.2 ≤ htopN := by
 unfold settingsB at h
 simp only [Bool.and_eq_true, decide_eq_true_eq, List.all_eq_true] at h
 refine ⟨h.2, h.1.2, fun s hs => ?_⟩
 have := h.1.1 s hs
 unfold okSet at this
 simp only [Bool.and_eq_true, decide_eq_true_eq] at this
 exact ⟨this.1.2, this.2⟩
theorem readK_put {f : HF} (h : rightH f = true) : readK f.k.toNat (bodyL f) = (f, ⟨[], 0⟩) ∧ isKind f.k.toNat = true ∧ isOld f.k.toNat = false ∧ f.k.toNat ≤ htopN ∧ (bodyL f).length ≤ 1000 := by
 obtain ⟨k, id, st, d⟩ := f
 unfold rightH at h
 simp only at h ⊢
 split at h
 ·rename_i hd
  simp only [Bool.and_eq_true, decide_eq_true_eq] at h
  obtain ⟨⟨rfl, hst⟩, hl⟩ := h
  obtain rfl := List.eq_nil_of_length_eq_zero hst
  have hk : k = 0 ∨ k = 1 := by unfold isData at hd; simpa using hd
  rcases hk with rfl | rfl
  ·exact ⟨rfl, rfl, rfl, by decide, hl⟩
  ·exact ⟨rfl, rfl, rfl, by decide, hl⟩
 ·split at h
  ·rename_i _ h4
   subst h4
   simp only [Bool.and_eq_true, decide_eq_true_eq] at h
   obtain ⟨⟨rfl, hd⟩, hs⟩ := h
   obtain rfl := List.eq_nil_of_length_eq_zero hd
   obtain ⟨hl, _, hle⟩ := okSet_le hs
   have hr := readSet_put st 17 [] (by omega) hle
   refine ⟨?_, rfl, rfl, by decide, ?_⟩
   ·show ((⟨4, 0, (readSetL 17 [] ⟨setL st, 0⟩).1, []⟩ : HF), (readSetL 17 [] ⟨setL st, 0⟩).2) = _
    rw [hr]
    rfl
   ·show (setL st).length ≤ 1000
    have := setL_len st
    omega
  ·split at h
   ·rename_i hi
    simp only [Bool.and_eq_true, decide_eq_true_eq] at h
    obtain ⟨hid, h0⟩ := h
    have h0' : d = [] ∧ st = [] := by
     constructor
     ·exact List.eq_nil_of_length_eq_zero (by omega)
     ·exact List.eq_nil_of_length_eq_zero (by omega)
    obtain ⟨rfl, rfl⟩ := h0'
    have hk : k = 3 ∨ k = 7 ∨ k = 13 := by unfold isId at hi; simp only [Bool.or_eq_true, decide_eq_true_eq] at hi; omega
    have hp : RS.int ⟨putL id, 0⟩ = (id, ⟨[], 0⟩) := by have := hint_put id [] hid; simpa using this
    have hln := hputL_len id
    rcases hk with rfl | rfl | rfl
    ·refine ⟨?_, rfl, rfl, by decide, by show (putL id).length ≤ 1000; omega⟩
     show ((⟨3, (RS.int ⟨putL id, 0⟩).1, [], []⟩ : HF), (RS.int ⟨putL id, 0⟩).2) = _
     rw [hp]
    ·refine ⟨?_, rfl, rfl, by decide, by show (putL id).length ≤ 1000; omega⟩
     show ((⟨7, (RS.int ⟨putL id, 0⟩).1, [], []⟩ : HF), (RS.int ⟨putL id, 0⟩).2) = _
     rw [hp]
    ·refine ⟨?_, rfl, rfl, by decide, by show (putL id).length ≤ 1000; omega⟩
     show ((⟨13, (RS.int ⟨putL id, 0⟩).1, [], []⟩ : HF), (RS.int ⟨putL id, 0⟩).2) = _
     rw [hp]
   ·cases h
theorem hput_next {f : HF} (h : rightH f = true) (more : List UInt8) : nextL (hfputL f ++ more) = (f, (hfputL f).length, 0) := by
 obtain ⟨hr, hk, ho, ht, hb⟩ := readK_put h
 have e0 : hfputL f = putL f.k.toNat ++ putL (bodyL f).length ++ bodyL f := by unfold hfputL; rw [if_pos h]
 have e : hfputL f ++ more = putL f.k.toNat ++ (putL (bodyL f).length ++ (bodyL f ++ more)) := by rw [e0]; simp [List.append_assoc]
 have hl : (hfputL f ++ more).length - more.length = (hfputL f).length := by simp
 have i1 := hint_put f.k.toNat (putL (bodyL f).length ++ (bodyL f ++ more)) ht
 have i2 := hint_put (bodyL f).length (bodyL f ++ more) (by unfold htopN; omega)
 have i3 := bytes_put (bodyL f) more
 rw [← e] at i1
 rw [nextL_kind (by rw [i1]; exact ho) (by rw [i1]; simp only; rw [i2]; simp only; rw [i3]) (by rw [i1]; exact hk), i1]
 simp only
 rw [i2]
 simp only
 rw [i3]
 simp only
 unfold nextE
 rw [hr]
 simp only
 rw [if_neg (by simp [h]), hl]
end Go.Proofs.YtahgidkpjmecdaaGreatDoor
set_option maxRecDepth 100000
namespace Go.Proofs.YtahgidkpjmecdaaGreatDoor
theorem good_len {f : Fd} (h : badFd f = false) : 1 ≤ f.n.length ∧ f.n.length ≤ 60 ∧ f.v.length ≤ 200 := by
 unfold badFd at h
 simp only [Bool.or_eq_false_iff, decide_eq_false_iff_not] at h
 omega
theorem fields_snoc {acc : List Fd} {f : Fd} (h : fieldsB acc = true) (hf : badFd f = false) : fieldsB (acc ++ [f]) = decide (acc.length + 1 ≤ 32) := by
 unfold fieldsB at h ⊢
 simp only [Bool.and_eq_true, Bool.not_eq_true'] at h
 rw [List.any_append, h.2]
 simp [hf]
theorem unpack_sec : ∀ (l : List Fd) (n : Nat) (acc : List Fd), (∀ f ∈ l, badFd f = false) → fieldsB acc = true → 33 < n + acc.length → unpackL n acc ⟨secL l, 0⟩ = if acc.length + l.length ≤ 32 then (acc ++ l, 0) else ([], 3)
 | [], n, acc, _, ha, hn => by
  have h32 := (fds_good ha).1
  obtain ⟨m, rfl⟩ : ∃ m, n = m + 1 := ⟨n - 1, by omega⟩
  rw [unpack_nil (by rfl), if_pos (by simpa using h32), List.append_nil]
 | f :: l, n, acc, hl, ha, hn => by
  have h32 := (fds_good ha).1
  obtain ⟨m, rfl⟩ : ∃ m, n = m + 1 := ⟨n - 1, by omega⟩
  have hf := hl f (by simp)
  obtain ⟨_, h60, h200⟩ := good_len hf
  have e : secL (f :: l) = 32 :: (putL f.n.length ++ (f.n ++ (putL f.v.length ++ (f.v ++ secL l)))) := by simp [secL, fdL, textL]
  have b1 : RS.byte ⟨32 :: (putL f.n.length ++ (f.n ++ (putL f.v.length ++ (f.v ++ secL l)))), 0⟩ = (32, ⟨putL f.n.length ++ (f.n ++ (putL f.v.length ++ (f.v ++ secL l))), 0⟩) := by
   simp [RS.byte, RS.bytes]
  rw [e, unpack_step (by simp) b1 (hint_put f.n.length _ (by unfold htopN; omega)) (bytes_put f.n _) (hint_put f.v.length _ (by unfold htopN; omega)) (bytes_put f.v _)]
  rw [if_neg (by simp), if_neg (by simp)]
  show (if fieldsB (acc ++ [f]) = false then _ else unpackL m (acc ++ [f]) _) = _
  rw [fields_snoc ha hf]
  by_cases h : acc.length + 1 ≤ 32
  ·rw [if_neg (by simpa using h), unpack_sec l m (acc ++ [f]) (fun g hg => hl g (by simp [hg])) (by rw [fields_snoc ha hf]; simpa using h) (by simp; omega)]
   have e1 : (acc ++ [f]).length + l.length = acc.length + (f :: l).length := by simp; omega
   rw [e1]
   simp [List.append_assoc]
  ·rw [if_pos (by simpa using h), if_neg (by simp only [List.length_cons]; omega)]
theorem fields_good {l : List Fd} (h : fieldsB l = true) : ∀ f ∈ l, badFd f = false := by
 unfold fieldsB at h
 simp only [Bool.and_eq_true, Bool.not_eq_true', List.any_eq_false] at h
 intro f hf
 simpa using h.2 f hf
theorem pack_of {l : List Fd} (h : fieldsB l = true) : packL l = secL l := by unfold packL secL; rw [if_pos h]
theorem unpack_pack {l : List Fd} (h : fieldsB l = true) : unpackL 34 [] ⟨packL l, 0⟩ = (l, 0) := by
 rw [pack_of h, unpack_sec l 34 [] (fields_good h) rfl (by simp), if_pos (by have := (fds_good h).1; simpa using this)]
 rfl
end Go.Proofs.YtahgidkpjmecdaaGreatDoor
