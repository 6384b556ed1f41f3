/- Parts of the proof: UaE UaF YfR YfS UaG. -/
import Derived.Test.YtahgidkpjmecdaaGreatDoorB02
import Derived.Test.YtahgidkpjmecdaaGreatDoorB08
import Derived.Test.YtahgidkpjmecdaaGreatDoorB14
import Derived.Test.YtahgidkpjmecdaaGreatDoorB20
import Derived.Test.YtahgidkpjmecdaaGreatDoorB22
import Derived.Lib.AppendStr
import Derived.Deep.RegionHeld3
set_option maxRecDepth 100000
namespace Go.Proofs.YtahgidkpjmecdaaGreatDoor
open Go.RowKit Go.Maps
def fldTh (B : Nat) (v : Value) (l : List Fd) : Th := ⟨fun w => OwnF w B v l, fun k => v.ownBlock = some k, fun _ _ _ h hM hS => hM.own h (fun g hg => hS g hg)⟩
set_option maxHeartbeats 1000000 in
theorem snew_s {W w : World} {l : List Th} (h : At W w l) (c : Bool) :
  Calls Tryz.prog 9 #[.bool c] w fun e w' => ∃ sb mb G, e = .returned (.pointer (some ⟨sb, 0, none⟩)) ∧ At W w' (sesTh W.heap.size sb mb G (ses0 c) nilS :: l) := by
 have HS := Lib.hid h
 have hmm := @run_makeMap Tryz.prog
 clear h
 go_enter Tryz.func9, Tryz.ntmps9
 go_wp2
 go_ret
 have hM : Mod (fun _ => False) w ((w.alloc (.map #[] 0)).alloc (.cells (sesC w.heap.size (ses0 c) nilS) 68)) := ((Mod.refl _ _).alloc _).alloc _
 have hw := HS.out.le
 have e1 : (w.alloc (.map #[] 0)).heap.size = w.heap.size + 1 := by simp
 refine ⟨w.heap.size + 1, w.heap.size, fun _ => ⟨0, nilS⟩, rfl, HS.out.push hM (sesTh W.heap.size (w.heap.size + 1) w.heap.size (fun _ => ⟨0, nilS⟩) (ses0 c) nilS) ?_ ?_⟩
 ·have hb := Blk.new (w.alloc (.map #[] 0)) (sesC w.heap.size (ses0 c) nilS) 68
  rw [e1] at hb
  exact ⟨(by show W.heap.size ≤ w.heap.size + 1; omega), hw, hb, (IMap.made 34 .u64 w _).kept (S := fun _ => False) ((Mod.refl _ _).alloc _) (fun h => h), fun z hz => (by cases hz), fun z hz => (by cases hz), fun z hz => (by cases hz), (by show w.heap.size ≠ w.heap.size + 1; omega), fun z hz => (by cases hz), by refine ⟨?_, ?_, ?_, ?_⟩ <;> first | exact Nat.zero_le _ | (show ((0 : Nat) : Int) ≤ 4611686018427387904; decide)⟩
 ·have e2 : ((w.alloc (.map #[] 0)).alloc (.cells (sesC w.heap.size (ses0 c) nilS) 68)).heap.size = w.heap.size + 1 + 1 := by simp
  rintro k (rfl | rfl | ⟨z, hz, _⟩)
  ·exact ⟨by omega, by rw [e2]; omega⟩
  ·exact ⟨by omega, by rw [e2]; omega⟩
  ·cases hz
theorem step_build_ev {w : World} {ops : Array Oper} {o : Oper} {a : Act} {K : Act → World → Prop} {Q : Exit → Act → World → Prop} {E : Prop} (hgd : o.guard = none) (x : Operand)
  (ho : o.op = .buildSlice 48 1 #[(0, x)]) (f : Ev) (vf vb : Value) (hx : a.eval x = .agg (evC f vf vb))
  (h : K (a.put o.dst (.slice (some ⟨w.heap.size, 0, none⟩) 1 1)) (w.alloc (.cells (evC f vf vb) 51))) :
  if Region.wanted o (yielded ops a.tmps) = true then Oper.wp Tryz.prog o a w K Q else E := by
 have hw : Region.wanted o (yielded ops a.tmps) = true := by simp [Region.wanted, hgd]
 rw [if_pos hw]
 obtain ⟨i0, hi, hz0, hz1, hz2⟩ := info_parts infoEv
 refine wp_buildSlice 48 51 1 #[(0, x)] ho (evC f vf vb) i0 _ Tryz.underlying48 hi hz0 (by rw [hz1]; decide) (by rw [hz1]; decide) ?_ h
 rw [hz1]
 have e := Go.Great.fill_whole (s := 5) (by decide) [Value.agg (evC f vf vb)] ((Array.range (1 * 5)).map ((Value.agg (evC ⟨0, 0, [], [], 0⟩ (.slice none 0 0) (.slice none 0 0))).cells[· % (Value.agg (evC ⟨0, 0, [], [], 0⟩ (.slice none 0 0) (.slice none 0 0))).cells.size]!)) (fun v hv => by
  have := List.mem_singleton.1 hv
  subst this
  rfl) (by rw [Array.size_map, Array.size_range]; rfl)
 have e2 : (#[(0, x)].map fun (p : Nat × Operand) => (p.1, a.eval p.2)).toList = (([Value.agg (evC f vf vb)].zipIdx 0).map fun x => (x.2, x.1)) := by
  simp [hx]
 refine Eq.trans (congrArg _ e2) (e.trans ?_)
 simp [Value.cells]
theorem OwnEI.clip {w : World} {B : Nat} {X : Nat → Prop} {v : Value} {l : List Ev} (h : OwnEI w B X v l) : OwnEI w B (fun k => X k ∧ k < w.heap.size) v l := by
 obtain ⟨⟨css, h1, h2⟩, h3⟩ := h
 refine ⟨⟨css, ?_, h2⟩, fun g hg => ⟨h3 g hg, (World.ownsRow.lt h2 g hg).2⟩⟩
 clear h2 h3
 induction l generalizing css with
 | nil => exact h1
 | cons f l ih =>
  obtain ⟨c, cs, e, ⟨vf, vb, a1, a2, a3, a4, a5⟩, e3⟩ := h1
  exact ⟨c, cs, e, ⟨vf, vb, a1, a2, a3, fun g hg => ⟨a4 g hg, (World.ownsRow.lt a2 g hg).2⟩, fun g hg => ⟨a5 g hg, (World.ownsRow.lt a3 g hg).2⟩⟩, ih _ e3⟩
theorem OwnEI.clipped {w : World} {B sb : Nat} {X : Nat → Prop} {v u : Value} {l : List Ev} {C : Array Value} (h : OwnEI w B X v l) (hb : Blk w sb C 68) : OwnEI (w.setCell ⟨sb, 11, none⟩ u) B (fun k => X k ∧ k < (w.setCell ⟨sb, 11, none⟩ u).heap.size) v l := by
 have hM : Mod (fun k => k = sb) w (w.setCell ⟨sb, 11, none⟩ u) := (Mod.refl (fun k => k = sb) _).setCell (p := ⟨sb, 11, none⟩) (fun _ => rfl) _
 refine OwnEI.clip ?_
 obtain ⟨⟨css, h1, h2⟩, h3⟩ := h
 have hne : ∀ {e : TypeId} {s n : Nat} {y : Value} {xs : List Value}, w.ownsRow B e s y n xs → e ≠ 68 → ∀ g, y.ownBlock = some g → ¬ g = sb := fun hr he g hg e => by
  obtain ⟨_, C2, hC2⟩ := row_lies hr hg
  exact Blk.ne hC2 hb he e
 refine ⟨⟨css, ?_, hM.own h2 (hne h2 (by decide))⟩, h3⟩
 clear h2 h3
 induction l generalizing css with
 | nil => exact h1
 | cons f l ih =>
  obtain ⟨c, cs, e, ⟨vf, vb, a1, a2, a3, a4, a5⟩, e3⟩ := h1
  exact ⟨c, cs, e, ⟨vf, vb, a1, hM.own a2 (hne a2 (by decide)), hM.own a3 (hne a3 (by decide)), a4, a5⟩, ih _ e3⟩
def TellR (B : Nat) (w w' : World) (sb mb : Nat) (S : Ses) (ov : Value) (X Y : Nat → Prop) (l : List Ev) (f : Ev) (e : Ending) : Prop := ∃ a c, e = .returned (.tuple #[]) ∧ Blk w' sb (sesC mb S (.slice a (l.length + 1) c)) 68 ∧ OwnEI w' B (fun k => (X k ∨ Y k ∨ w.heap.size ≤ k) ∧ k < w'.heap.size) (.slice a (l.length + 1) c) (l ++ [f]) ∧ Mod (fun k => k = sb ∨ ov.ownBlock = some k) w w'
set_option maxHeartbeats 4000000 in
set_option maxRecDepth 10000 in
theorem tell_any {B : Nat} {w : World} {sb mb : Nat} {S : Ses} {ov : Value} (hb : Blk w sb (sesC mb S ov) 68) {X Y : Nat → Prop} {l : List Ev} (ho : OwnEI w B X ov l) (hl : l.length ≤ 1000) {f : Ev} {vf vb : Value} (hf : EvI w B Y f (evL f vf vb)) (hB : B ≤ w.heap.size) :
  Calls Tryz.prog 36 #[.pointer (some ⟨sb, 0, none⟩), .agg (evC f vf vb)] w fun e w' => TellR B w w' sb mb S ov X Y l f e := by
 have hM0 : Mod (fun _ => False) w (w.alloc (.cells (evC f vf vb) 51)).drew := ((Mod.refl _ _).alloc _).drew
 have hM00 : Mod (fun k => ov.ownBlock = some k) w (w.alloc (.cells (evC f vf vb) 51)).drew := ((Mod.refl _ _).alloc _).drew
 have he0 : Blk (w.alloc (.cells (evC f vf vb) 51)).drew w.heap.size (evC f vf vb) 51 := (Mod.refl (fun _ => False) (w.alloc (.cells (evC f vf vb) 51))).drew.blk (Blk.new _ _ _) (fun h => h)
 have hsz : (w.alloc (.cells (evC f vf vb) 51)).drew.heap.size = w.heap.size + 1 := by
  show (w.alloc (.cells (evC f vf vb) 51)).heap.size = _
  simp
 have hne : ¬ ov.ownBlock = some sb := fun e => ho.apart hb (by decide) e
 have hne2 : ¬ ov.ownBlock = some w.heap.size := fun e => by
  obtain ⟨⟨css, _, h2⟩, _⟩ := ho
  have := (World.ownsRow.lt h2 _ e).2
  omega
 obtain ⟨a3, c3, w3, hr, ho3, hg3, hat⟩ := OwnEI.append (((ho.more (X' := fun k => X k ∨ Y k ∨ w.heap.size ≤ k) (fun k h => .inl h)).still hM0).still ((Mod.refl (fun _ => False) _).alloc (.cells (evC f vf vb) 51))) (ev_lit _ (f := f) (vf := vf) (vb := vb)) (((hf.more (X' := fun k => X k ∨ Y k ∨ w.heap.size ≤ k) (fun k h => .inr (.inl h))).kept hM0 (fun _ _ _ _ _ _ h => h)).kept ((Mod.refl (fun _ => False) _).alloc (.cells (evC f vf vb) 51)) (fun _ _ _ _ _ _ h => h)) (fun k hk => .inr (.inr (by rw [World.size_alloc, hsz] at hk; omega))) (by omega) (by rw [World.size_alloc, hsz]; omega) 48
 have hM3 : Mod (fun k => ov.ownBlock = some k) w w3 := (hM00.alloc _).trans ((Mod.refl (fun j => ov.ownBlock = some j) _).grown hg3 (fun k hk _ => hk))
 have hM3' : Mod (fun k => ov.ownBlock = some k) (w.alloc (.cells (evC f vf vb) 51)).drew w3 := ((Mod.refl _ _).alloc _).trans ((Mod.refl (fun j => ov.ownBlock = some j) _).grown hg3 (fun k hk _ => hk))
 have HM3 := Lib.hid hM3
 have HM3' := Lib.hid hM3'
 have HR := Lib.hid hr
 have HO3 := Lib.hid ho3
 have HB3 := Lib.hid (hM3.blk hb hne)
 have HB0 := Lib.hid (hM0.blk hb (fun h => h))
 have HNE := Lib.hid hne
 have hl0 : ∀ X', Mod (fun k => ov.ownBlock = some k) (w.alloc (.cells (evC f vf vb) 51)).drew X' → X'.cell? ⟨sb, 11, none⟩ = some ov := fun X' hX => hX.cellAt (HB0.out.cellAt 11 rfl) hne
 have HL0 := Lib.hid hl0
 have HSZ : Hid ((Tryz.prog.info? 51).map (·.size) = some (evC f vf vb).size) := Lib.hid (by show _ = some 5; kernel_rfl)
 have hel : ∀ X', Mod (fun k => ov.ownBlock = some k) (w.alloc (.cells (evC f vf vb) 51)).drew X' → (Instr.loadAt 51 (.pointer (some ⟨w.heap.size, 0, none⟩))).run Tryz.prog X' = .ok (.agg (evC f vf vb)) X' := fun X' hX => run_loadAt_mid X' w.heap.size 0 51 (evL f vf vb) _ (fun j v hv => by rw [Nat.zero_add]; exact (hX.blk he0 hne2).cellAt j (by simpa [evC] using hv)) Tryz.underlying51 rfl HSZ.out
 have HEL := Lib.hid hel
 clear hb ho hl hf hB hM0 hM00 he0 hsz hne hne2 hr ho3 hg3 hat hM3 hM3' hl0 hel HSZ
 go_enter Tryz.func36, Tryz.ntmps36
 go_upto_region 1 with fail
 generalize hC : evC f vf vb = C at *
 have HC := Lib.hid hC
 clear hC
 refine wp_region_last (S := fun X => Mod (fun k => ov.ownBlock = some k) (w.alloc (.cells C 51)).drew X) 10 (by kernel_rfl) (Mod.refl _ _) (fun hS => ?_)
 generalize hW : (w.alloc (.cells C 51)).drew = W0 at *
 have HW := Lib.hid hW
 clear hW
 refine' tkL 0 _ (some 4) rfl rfl (by kernel_rfl) (fun _ _ _ h => h) (Or.inl ⟨by rfl, fun X hX => ?_⟩) hS ?_; rotate_left
 ·go_simp; exact rfl
 (try go_frame); refine' tkL 1 _ (some 5) rfl rfl (by kernel_rfl) (fun _ _ _ h => h) (Or.inl ⟨by rfl, fun X hX => ?_⟩) hS ?_; rotate_left
 ·go_simp; exact rfl
 (try go_frame); refine' tkL 2 _ (some 6) rfl rfl (by kernel_rfl) (fun _ _ _ h => h) (Or.inl ⟨by rfl, fun X hX => ?_⟩) hS ?_; rotate_left
 ·go_simp; exact rfl
 (try go_frame); refine' tkL 3 _ (some 7) rfl rfl (by kernel_rfl) (fun _ _ _ h => h) (Or.inl ⟨by rfl, fun X hX => ?_⟩) hS ?_; rotate_left
 ·go_simp; exact rfl
 (try go_frame); refine' tkL 4 _ (some 8) rfl rfl (by kernel_rfl) (fun _ _ _ h => h) (Or.inl ⟨by rfl, fun X hX => ?_⟩) hS ?_; rotate_left
 ·have c := HL0.out X hX; go_simp; exact rfl
 (try go_frame); refine tkL 5 (.agg C) (some 9) rfl rfl (by kernel_rfl) (fun _ _ _ h => h) (Or.inl ⟨by rfl, fun X hX => ?_⟩) hS ?_
 ·exact exec_load rfl rfl (HEL.out X hX)
 (try go_frame); refine wpAnyL.ready (rs := [6]) (by kernel_rfl) (by simp) ?_
 refine (AllReadyL.cons (o := ⟨some 10, _, _, _, _, none⟩) rfl (by decide) (fun K hK => ?_) AllReadyL.nil)
 refine step_build_ev rfl (.tmp 9) rfl f vf vb (by rw [HC.out]; rfl) ?_
 rw [HC.out]
 refine hK.out _ _ (Mod.alloc hS _) (fun hS => ?_)
 clear hK K
 (try go_frame); refine wpAnyL.ready (rs := [7]) (by kernel_rfl) (by simp) ?_
 refine (AllReadyL.cons (o := ⟨some 11, _, _, _, _, none⟩) rfl (by decide) (fun K hK => ?_) AllReadyL.nil)
 refine step_val rfl (exec_app (s := .tmp 8) (x := .tmp 10) rfl rfl rfl HR.out) ?_
 refine hK.out _ _ HM3'.out (fun hS => ?_)
 clear hK K
 (try go_frame); refine' tkL 8 _ (some 12) rfl rfl (by kernel_rfl) (fun _ _ _ h => h) (Or.inl ⟨by rfl, fun X hX => ?_⟩) hS ?_; rotate_left
 ·go_simp; exact rfl
 (try go_frame); refine' tkL 9 _ (some 13) rfl rfl (by kernel_rfl) (fun _ _ _ h => h) (Or.inl ⟨by rfl, fun X hX => ?_⟩) hS ?_; rotate_left
 ·go_simp; exact rfl
 (try go_frame); refine wpAnyL.ready (rs := [10]) (by kernel_rfl) (by simp) ?_
 refine AllReadyL.closing (o := ⟨none, _, _, _, _, none⟩) rfl (fun K hK => ?_)
 have c := HB3.out.cellAt 11 rfl
 have fz := HB3.out.free 11
 go_simp
 refine hK.out _ _ ?_
 clear hK K c fz
 refine wpAnyL.done (by kernel_rfl) ?_ _
 go_wp2_with fail
 go_end0
 exact ⟨a3, c3, rfl, HB3.out.set 11 _, HO3.out.clipped HB3.out, (HM3.out.mono (fun _ _ h => .inr h)).setCell (p := ⟨sb, 11, none⟩) (fun _ => .inl rfl) _⟩
theorem limit_s {W w : World} {sb mb : Nat} {G : Int → PM} {S : Ses} {ov : Value} (l : List Th) {m : List Th} (h : At W w (l ++ sesTh W.heap.size sb mb G S ov :: m)) :
  Calls Tryz.prog 19 #[.pointer (some ⟨sb, 0, none⟩)] w fun e w' => e = .returned (.tuple #[.int .u64 (S.limit : Int), .bool S.limited]) ∧ Mod (fun _ => False) w w' := by
 have q : SBf W.heap.size w sb mb G S ov := h.get l
 have c7 : w.cell? ⟨sb, 7, none⟩ = some (.int .u64 (S.limit : Int)) := q.blk.cellAt 7 rfl
 have c8 : w.cell? ⟨sb, 8, none⟩ = some (.bool S.limited) := q.blk.cellAt 8 rfl
 clear q h
 go_enter Tryz.func19, Tryz.ntmps19
 go_wp2_with fail
 go_quiet (fail)
 all_goals (go_wp2_with fail)
 go_ret2
 exact ⟨rfl, (Mod.refl _ _).drewN _⟩
theorem over_s {W w : World} {sb mb : Nat} {G : Int → PM} {S : Ses} {ov : Value} (l : List Th) {m : List Th} (h : At W w (l ++ sesTh W.heap.size sb mb G S ov :: m)) :
  Calls Tryz.prog 21 #[.pointer (some ⟨sb, 0, none⟩)] w fun e w' => e = .returned (.tuple #[.int .u64 (S.code : Int), .bool S.over]) ∧ Mod (fun _ => False) w w' := by
 have q : SBf W.heap.size w sb mb G S ov := h.get l
 have c9 : w.cell? ⟨sb, 9, none⟩ = some (.int .u64 (S.code : Int)) := q.blk.cellAt 9 rfl
 have c10 : w.cell? ⟨sb, 10, none⟩ = some (.bool S.over) := q.blk.cellAt 10 rfl
 clear q h
 go_enter Tryz.func21, Tryz.ntmps21
 go_wp2_with fail
 go_quiet (fail)
 all_goals (go_wp2_with fail)
 go_ret2
 exact ⟨rfl, (Mod.refl _ _).drewN _⟩
theorem hfv_id (w : World) (k : Int) (id : Nat) : HFV w ⟨k, id, [], []⟩ nilS nilS := ⟨Sl.nil w 2, Sl.nil w 1, (by show ((0 : Nat) : Int) ≤ _; decide), (by show ((0 : Nat) : Int) ≤ _; decide)⟩
theorem built_hid (k : Int) (id : Nat) : Tryz.prog.built 77 [(0, .int .i64 k), (1, .int .u64 (id : Int))] = some #[.int .i64 k, .int .u64 (id : Int), .slice none 0 0, .slice none 0 0] := by kernel_rfl
theorem goL_len {id : Nat} : (goL id).length ≤ 24 := by
 unfold goL hfputL
 split
 ·have h1 := hputL_len (goF id).k.toNat
  have h2 := hputL_len (bodyL (goF id)).length
  have h3 : (bodyL (goF id)).length ≤ 8 := hputL_len id
  simp only [List.length_append]
  omega
 ·simp
theorem goS_set {B : Nat} {w : World} {sb mb : Nat} {G : Int → PM} {S : Ses} (q : SBf B w sb mb G S nilS) {id ln : Nat} (hi : id ≤ 1000000) (hn : S.wrote + ln ≤ 1000) :
  QC B w (((w.setCell ⟨sb, 7, none⟩ (.int .u64 (id : Int))).setCell ⟨sb, 8, none⟩ (.bool true)).setCell ⟨sb, 3, none⟩ (.int .i64 ((S.wrote : Int) + (ln : Int)))) sb mb G S { S with limit := id, limited := true, wrote := S.wrote + ln } nilS :=
 q.topQ (((q.blk.set 7 (.int .u64 (id : Int))).set 8 (.bool true)).set 3 (.int .i64 ((S.wrote : Int) + (ln : Int)))) ((((Mod.refl (fun k => k = sb) w).setCell (p := ⟨sb, 7, none⟩) (fun _ => rfl) _).setCell (p := ⟨sb, 8, none⟩) (fun _ => rfl) _).setCell (p := ⟨sb, 3, none⟩) (fun _ => rfl) _) rfl rfl
  ⟨by show (id : Int) ≤ 4611686018427387904; omega, q.num.2.1, q.num.2.2.1, hn⟩
def goT (S : Ses) (T : Tb) (id : Nat) : Tb := if goE S id = 0 then wrT T S.own (goL id) else T
def GoR (W w' : World) (sb mb tb mt : Nat) (S : Ses) (T : Tb) (m : List Th) (id : Nat) (e : Ending) : Prop := e = .returned (.int .i64 (goE S id)) ∧ ∃ G' GT', At W w' (sesTh W.heap.size sb mb G' (goS S id) nilS :: tabTh W.heap.size tb mt GT' (goT S T id) :: m)
theorem GoR.no {W w' : World} {sb mb tb mt : Nat} {S : Ses} {T : Tb} {m : List Th} {id : Nat} {G : Int → PM} {GT : Int → SM} {z : Int} (hz : goE S id = z) (h0 : z ≠ 0) (h : At W w' (sesTh W.heap.size sb mb G S nilS :: tabTh W.heap.size tb mt GT T :: m)) : GoR W w' sb mb tb mt S T m id (.returned (.int .i64 z)) := by
 refine ⟨by rw [hz], G, GT, ?_⟩
 unfold goS goT
 rw [if_neg (by rw [hz]; exact h0), if_neg (by rw [hz]; exact h0)]
 exact h
set_option maxHeartbeats 4000000 in
set_option maxRecDepth 10000 in
theorem goaway_s {W w : World} {sb mb tb mt : Nat} {G : Int → PM} {S : Ses} {GT : Int → SM} {T : Tb} {m : List Th} (h : At W w (sesTh W.heap.size sb mb G S nilS :: tabTh W.heap.size tb mt GT T :: m)) (hT : Tabs W) (hc : S.client = false) (hs : S.started = true) (ho : S.over = false) {id : Nat} (hi : id ≤ 1000000) :
  Calls Tryz.prog 14 #[.pointer (some ⟨sb, 0, none⟩), .pointer (some ⟨tb, 0, none⟩), .int .u64 (id : Int)] w fun e w' => GoR W w' sb mb tb mt S T m id e := by
 have q : SBf W.heap.size w sb mb G S nilS := h.get []
 have c0 : w.cell? ⟨sb, 0, none⟩ = some (.bool false) := hc ▸ q.blk.cellAt 0 rfl
 have c1 : w.cell? ⟨sb, 1, none⟩ = some (.bool true) := hs ▸ q.blk.cellAt 1 rfl
 have c10 : w.cell? ⟨sb, 10, none⟩ = some (.bool false) := ho ▸ q.blk.cellAt 10 rfl
 have c7 : w.cell? ⟨sb, 7, none⟩ = some (.int .u64 (S.limit : Int)) := q.blk.cellAt 7 rfl
 have c8 : w.cell? ⟨sb, 8, none⟩ = some (.bool S.limited) := q.blk.cellAt 8 rfl
 have HS := Lib.hid h
 have hw := q.num.2.2.2
 have hown := q.num.2.2.1
 have n0 : (S.wrote : Int) ≤ 1000 := by omega
 have i0 : (0 : Int) ≤ (id : Int) := by omega
 have i1 : (id : Int) ≤ 1000000 := by omega
 have t5 : (id : Int) ≤ 4611686018427387903 := by omega
 have t5' : ¬ 4611686018427387903 < (id : Int) := by omega
 have e0 : topN = 4611686018427387903 := rfl
 by_cases h4 : id % 4 = 0
 ·by_cases hl : S.limited = true ∧ S.limit < id
  ·have t4 : (id : Int) % 4 = 0 := by omega
   have t6 : S.limit < id := hl.2
   rw [hl.1] at c8
   have HE : Hid (goE S id = 1) := Lib.hid (by unfold goE; rw [if_pos (.inr (.inr hl))])
   clear q h hc hs ho hw hown e0 h4 hl hT
   go_enter Tryz.func14, Tryz.ntmps14
   go_wp2_with fail
   go_ret
   exact GoR.no HE.out (by decide) HS.out
  ·have t4 : (id : Int) % 4 = 0 := by omega
   have hgo : ¬ (id % 4 ≠ 0 ∨ topN < id ∨ (S.limited = true ∧ S.limit < id)) := by
    rintro (e | e | e)
    ·exact e h4
    ·omega
    ·exact hl e
   have HP : Hid (Calls Tryz.prog 27 #[.agg #[.int .i64 7, .int .u64 (id : Int), .slice none 0 0, .slice none 0 0]] w fun e w' => ∃ v, e = .returned v ∧ OwnB w' w.heap.size v (goL id) ∧ Mod (fun _ => False) w w') := Lib.hid (hput_any (h.tabs hT) (hfv_id w 7 id))
   obtain ⟨ln, hln⟩ : ∃ ln : Nat, (goL id).length = ln := ⟨_, rfl⟩
   have n1 : (ln : Int) ≤ 24 := by have := goL_len (id := id); omega
   have HLN := Lib.hid hln
   have hcase : S.limited = false ∨ (S.limited = true ∧ ¬ S.limit < id) := by
    cases hb : S.limited
    ·exact .inl rfl
    ·exact .inr ⟨rfl, fun e => hl ⟨hb, e⟩⟩
   by_cases hf : 1000 < S.wrote + ln
   ·have t7 : decide ((1000 : Int) < (S.wrote : Int) + (ln : Int)) = true := decide_eq_true (by omega)
    have HE : Hid (goE S id = 5) := Lib.hid (by unfold goE; rw [if_neg hgo, hln, if_pos hf])
    clear q h hc hs ho hw hown e0 h4 hl hT hgo hln hf
    rcases hcase with hb | ⟨hb, t6⟩ <;> (
     rw [hb] at c8
     clear hb
     go_enter Tryz.func14, Tryz.ntmps14
     go_wp2_with (first
      | ((with_reducible refine wpList_build_c ?_ 77 [(0, .const (.int .i64 7)), (1, .tmp 56)] ?_ [(0, .int .i64 7), (1, .int .u64 (id : Int))] ?_ _ (built_hid 7 id) ?_); (iterate 3 exact rfl))
      | (go_at_call 27; (with_reducible refine HP.out.mono ?_); rintro e w1 ⟨vp, rfl, hvp, hm⟩; obtain ⟨pa, pc, rfl, -⟩ := Sl.val hvp.byts; rw [HLN.out]; have HS1 := Lib.hid (HS.out.still hm); have k3 : w1.cell? ⟨sb, 3, none⟩ = some (.int .i64 (S.wrote : Int)) := (show SBf _ _ _ _ _ S _ from HS1.out.get []).blk.cellAt 3 rfl; clear hvp hm)
      | fail)
     go_ret
     exact GoR.no HE.out (by decide) HS1.out)
   ·have t7 : decide ((1000 : Int) < (S.wrote : Int) + (ln : Int)) = false := decide_eq_false (by omega)
    have HE : Hid (goE S id = 0) := Lib.hid (by unfold goE; rw [if_neg hgo, hln, if_neg hf])
    have HQ := Lib.hid (fun w1 (h1 : At W w1 (sesTh W.heap.size sb mb G S nilS :: tabTh W.heap.size tb mt GT T :: m)) => At.ses [] h1 (goS_set (h1.get []) (id := id) (ln := ln) hi (by omega)))
    have HX := Lib.hid (fun w1 => ((((Mod.refl (fun k => k = sb) w1).setCell (p := ⟨sb, 7, none⟩) (fun _ => rfl) (.int .u64 (id : Int))).setCell (p := ⟨sb, 8, none⟩) (fun _ => rfl) (.bool true)).setCell (p := ⟨sb, 3, none⟩) (fun _ => rfl) (.int .i64 ((S.wrote : Int) + (ln : Int)))))
    have HSB := Lib.hid q.blk.lt
    have HOW : Hid (okId S.own) := Lib.hid (by unfold okId; omega)
    clear q h hc hs ho hw hown e0 h4 hl hT hgo hln hf
    rcases hcase with hb | ⟨hb, t6⟩ <;> (
     rw [hb] at c8
     clear hb
     go_enter Tryz.func14, Tryz.ntmps14
     go_wp2_with (first
      | ((with_reducible refine wpList_build_c ?_ 77 [(0, .const (.int .i64 7)), (1, .tmp 56)] ?_ [(0, .int .i64 7), (1, .int .u64 (id : Int))] ?_ _ (built_hid 7 id) ?_); (iterate 3 exact rfl))
      | (go_at_call 27; (with_reducible refine HP.out.mono ?_); rintro e w1 ⟨vp, rfl, hvp, hm⟩; obtain ⟨pa, pc, rfl, -⟩ := Sl.val hvp.byts; rw [HLN.out]; rw [HLN.out] at hvp; have HS1 := Lib.hid (HS.out.still hm); have HV1 := Lib.hid hvp; have HNB : Hid (∀ g, (Value.slice pa ln pc).ownBlock = some g → ¬ g = sb) := Lib.hid (fun g hg e => by have h1 := (World.ownsRow.lt hvp g hg).1; have h2 := HSB.out; omega); have q1 : SBf W.heap.size w1 sb mb G S nilS := HS1.out.get []; have k3 : w1.cell? ⟨sb, 3, none⟩ = some (.int .i64 (S.wrote : Int)) := q1.blk.cellAt 3 rfl; have k2 : w1.cell? ⟨sb, 2, none⟩ = some (.int .u64 (S.own : Int)) := q1.blk.cellAt 2 rfl; have k7 : w1.cell? ⟨sb, 7, none⟩ = some (.int .u64 (S.limit : Int)) := q1.blk.cellAt 7 rfl; have k8 : w1.cell? ⟨sb, 8, none⟩ = some (.bool S.limited) := q1.blk.cellAt 8 rfl; have f3 := q1.blk.free 3; have f7 := q1.blk.free 7; have f8 := q1.blk.free 8; clear hvp hm q1)
      | (go_at_call 26; go_loud (obtain ⟨G2, h2⟩ := HQ.out _ HS1.out; (have HB : Byts _ (.slice pa ln pc) (goL id) := (HV1.out.kept (HX.out w1) (fun g hg e => HNB.out g hg e)).byts); (have HC := Lib.hid (write_s [_] h2 HOW.out HB (by rw [HLN.out]; omega))); (with_reducible refine HC.out.mono ?_); clear HC HB; rintro e w2 ⟨rfl, G3, hs⟩; have HS2 := Lib.hid hs; clear hs h2))
      | fail)
     go_ret
     refine ⟨by rw [HE.out]; rfl, G2, G3, ?_⟩
     unfold goS goT
     rw [if_pos HE.out, if_pos HE.out, HLN.out]
     exact HS2.out)
 ·have t4 : ¬ (id : Int) % 4 = 0 := by omega
  have HE : Hid (goE S id = 1) := Lib.hid (by unfold goE; rw [if_pos (.inl h4)])
  clear q h hc hs ho hw hown e0 h4 hT
  go_enter Tryz.func14, Tryz.ntmps14
  go_wp2_with fail
  go_ret
  exact GoR.no HE.out (by decide) HS.out
end Go.Proofs.YtahgidkpjmecdaaGreatDoor
set_option maxRecDepth 100000
namespace Go.Proofs.YtahgidkpjmecdaaGreatDoor
open Go.RowKit
theorem strCells_bv (l : List UInt8) : Lib.strCells ⟨l.toArray⟩ = l.map bv := by simp [Lib.strCells, bv]
theorem wpList_append_s {w : World} {ops : Array Oper} {rest : List Oper} {o : Oper} {a : Act} {Q : Exit → Act → World → Prop} (hgd : o.guard = none) (s x : Operand)
  (ho : o.op = .call { callee := .builtin .append, args := #[s, x], argTypes := #[31, 9] })
  (v : Value) (l : List UInt8) (B n : Nat) (hs : a.eval s = v) (hown : OwnB w B v l)
  (st : ByteArray) (news : List UInt8) (hst : st = ⟨news.toArray⟩) (hx : a.eval x = .string st) (L : List UInt8) (hL : L = l ++ news) (hn : l.length + news.length = n) (hbytes : (n : Int) ≤ 140737488355328) (hbase : B ≤ w.heap.size)
  (h : ∀ ap cp w', App w w' B n v (.slice ap n cp) L → wpList Tryz.prog ops Q rest (a.put o.dst (.slice ap n cp)) w') : wpList Tryz.prog ops Q (o :: rest) a w := by
 subst hL
 subst hst
 obtain ⟨i0, hi, hz0, hz1, hz2⟩ := info_parts Tryz.info5
 have e0 := str_size news
 refine Lib.wpList_append_own_string w hgd s x 31 9 ho B 5 i0 Tryz.underlying31 Tryz.underlying9 hi hz0 hz1 hz2 v l.length (l.map bv) hs hown ⟨news.toArray⟩ hx (by rw [e0]; simp only [maxLen]; omega) (by rw [e0]; omega) hbase ?_
 intro v' w' ho' hg _
 have ho2 : OwnB w' B v' (l ++ news) := by unfold OwnB; rw [e0, strCells_bv] at ho'; simpa using ho'
 obtain ⟨ap, cp, rfl, _⟩ := byts_val ho2.byts
 have e : (l ++ news).length = n := by simpa using hn
 rw [e] at ho2 ⊢
 exact h ap cp w' ⟨ho2, ho2.byts, ⟨_, _, rfl⟩, fun hM hS => hM.grown hg (fun k hk hlt => hS k hk hlt), fun g hg' => (World.ownsRow.lt hown g hg').1⟩
set_option maxHeartbeats 2000000 in
set_option maxRecDepth 10000 in
theorem text_any (s : List UInt8) (hl : (s.length : Int) ≤ 100000) (w : World) (hT : Tabs w) :
  Calls Tryz.prog 92 #[strV s] w fun e w' => ∃ v, e = .returned v ∧ OwnB w' w.heap.size v (textL s) ∧ Mod (fun _ => False) w w' := by
 have HP := Lib.hid (put_any s.length w hT)
 obtain ⟨L, hL⟩ : ∃ L, L = textL s := ⟨_, rfl⟩
 rw [← hL]
 have HLL : Hid (L = putL s.length ++ s) := hL
 have hpl := hputL_len s.length
 have hs1 := str_size s
 unfold strV
 generalize hb1 : (ByteArray.mk s.toArray) = s1 at *
 have HB1 := Lib.hid hb1
 clear hT hL hb1
 generalize putL s.length = P at *
 generalize hns : s.length = ns at *
 have HNS := Lib.hid hns
 clear hns
 go_enter Tryz.func92, Tryz.ntmps92
 go_wp2_with fail
 refine (HP.out).mono ?_
 rintro e w1 ⟨v, rfl, ho, hM⟩
 obtain ⟨a1, c1, rfl, _⟩ := byts_val ho.byts
 have HM := Lib.hid hM
 have HO := Lib.hid ho
 obtain ⟨n, hn⟩ : ∃ n, n = P.length + ns := ⟨_, rfl⟩
 have hn2 : (n : Int) ≤ 200000 := by omega
 have HNN := Lib.hid hn
 clear ho hM HP hn
 generalize hnp : P.length = np at *
 have HNP := Lib.hid hnp
 clear hnp
 go_wp2_with ((with_reducible refine wpList_append_s ?_ (.tmp 6) (.tmp 7) ?_ (.slice a1 np c1) P w.heap.size n ?_ HO.out s1 s HB1.out.symm ?_ L HLL.out ?_ ?_ HM.out.size ?_); (iterate 4 exact rfl); (· have := HNP.out; have := HNS.out; have := HNN.out; omega); (· omega); intro ap cp w2 hA; have HA := Lib.hid hA; clear hA)
 go_ret
 exact ⟨_, rfl, HA.out.own, HA.out.modF HM.out (Nat.le_refl _)⟩
theorem size52 (a b : Value) : (Tryz.prog.info? 39).map (·.size) = some (#[a, b] : Array Value).size := by show _ = some 2; kernel_rfl
theorem hparts4 {w : World} {b : Nat} {v1 v2 v3 v4 : Value} {l1 l2 l3 l4 : List UInt8} {T : TypeId} (hb : Blk w b #[v1, v2, v3, v4] T) (h1 : Byts w v1 l1) (h2 : Byts w v2 l2) (h3 : Byts w v3 l3) (h4 : Byts w v4 l4) : Parts w b 0 [l1, l2, l3, l4] := by
 intro i l hl
 obtain ⟨a1, c1, rfl, _⟩ := byts_val h1
 obtain ⟨a2, c2, rfl, _⟩ := byts_val h2
 obtain ⟨a3, c3, rfl, _⟩ := byts_val h3
 obtain ⟨a4, c4, rfl, _⟩ := byts_val h4
 rw [Nat.zero_add]
 match i, hl with
 | 0, hl => simp at hl; subst hl; exact ⟨_, _, hb.cellAt 0 rfl, h1⟩
 | 1, hl => simp at hl; subst hl; exact ⟨_, _, hb.cellAt 1 rfl, h2⟩
 | 2, hl => simp at hl; subst hl; exact ⟨_, _, hb.cellAt 2 rfl, h3⟩
 | 3, hl => simp at hl; subst hl; exact ⟨_, _, hb.cellAt 3 rfl, h4⟩
 | (_ + 4), hl => simp at hl
theorem hconcat4 {w : World} {b : Nat} {v1 v2 v3 v4 : Value} {l1 l2 l3 l4 : List UInt8} {T : TypeId} (hb : Blk w b #[v1, v2, v3, v4] T) (h1 : Byts w v1 l1) (h2 : Byts w v2 l2) (h3 : Byts w v3 l3) (h4 : Byts w v4 l4) {L : List UInt8} (hL : l1 ++ l2 ++ l3 ++ l4 = L) (hl : (L.length : Int) ≤ 100000) (hp : 0 < L.length) :
  Calls Tryz.prog 47 #[.slice (some ⟨b, 0, none⟩) 4 4] w fun e w' => ∃ v', e = .returned v' ∧ OwnB w' w.heap.size v' L ∧ Mod (fun _ => False) w w' := by
 have e : [l1, l2, l3, l4].flatten = L := by rw [← hL]; simp
 rw [← e] at hl hp ⊢
 exact concat_any (n := 4) (c := 4) (ls := [l1, l2, l3, l4]) rfl (Nat.le_refl _) (hparts4 hb h1 h2 h3 h4) hl hp (by decide)
theorem textL_len (s : List UInt8) : (textL s).length ≤ 8 + s.length := by unfold textL; have := hputL_len s.length; simp; omega
theorem fds_good {l : List Fd} (h : fieldsB l = true) : l.length ≤ 32 ∧ ∀ f ∈ l, 1 ≤ f.n.length ∧ f.n.length ≤ 60 ∧ f.v.length ≤ 200 ∧ f.n.any isUp = false := by
 unfold fieldsB at h
 simp only [Bool.and_eq_true, decide_eq_true_eq, Bool.not_eq_true', List.any_eq_false] at h
 refine ⟨h.1, fun f hf => ?_⟩
 have := h.2 f hf
 unfold badFd at this
 simp only [Bool.or_eq_true, decide_eq_true_eq, not_or] at this
 obtain ⟨⟨⟨a, b⟩, c⟩, d⟩ := this
 exact ⟨by omega, by omega, by omega, by simpa using d⟩
theorem fdL_len (f : Fd) : (fdL f).length ≤ 17 + f.n.length + f.v.length := by
 unfold fdL
 have h1 := textL_len f.n
 have h2 := textL_len f.v
 rw [List.length_append, List.length_cons]
 omega
def secL (l : List Fd) : List UInt8 := l.flatMap fdL
theorem pack_len (l : List Fd) (h : ∀ f ∈ l, f.n.length ≤ 60 ∧ f.v.length ≤ 200) : (secL l).length ≤ 277 * l.length := by
 unfold secL
 induction l with
 | nil => simp
 | cons s l ih =>
  have h1 := fdL_len s
  have h2 := h s (by simp)
  have h3 := ih (fun f hf => h f (by simp [hf]))
  rw [List.flatMap_cons, List.length_append, List.length_cons]
  omega
set_option maxHeartbeats 8000000 in
set_option maxRecDepth 10000 in
theorem pack_any {w : World} {v : Value} {l : List Fd} (hT : Tabs w) (hU : UTabs w) (hv : FldV w v l) (hn : (l.length : Int) ≤ 100000) (ho : FdsOk l) :
  Calls Tryz.prog 50 #[v] w fun e w' => ∃ v', e = .returned v' ∧ OwnB w' w.heap.size v' (packL l) ∧ Mod (fun _ => False) w w' := by
 have HX := Lib.hid (flds_any hU hv hn ho)
 have HPU := Lib.hid (fun (s : List UInt8) (hl : (s.length : Int) ≤ 100000) X (h : Mod (fun _ => False) w X) => text_any s hl X (h.tabs hT (fun h => h)))
 have HV := Lib.hid hv
 clear hv hT hU ho
 obtain ⟨a, cap, rfl, hcap, _⟩ := fld_val HV.out
 obtain ⟨n, hnn⟩ : ∃ n, n = l.length := ⟨_, rfl⟩
 rw [← hnn] at hn hcap HX ⊢
 have HN := Lib.hid hnn
 have hnc : (n : Int) ≤ cap := by omega
 clear hcap hnn
 generalize hB : fieldsB l = B at *
 cases B
 ·have e : packL l = [] := by unfold packL; rw [hB]; simp
  rw [e]
  clear hB e HPU HV HN
  go_enter Tryz.func50, Tryz.ntmps50
  go_wp2_with fail
  refine (HX.out).mono ?_
  rintro e w1 ⟨rfl, hM⟩
  go_wp2
  go_ret
  exact ⟨_, rfl, OwnB.nil _ _, hM⟩
 have e : packL l = secL l := by unfold packL secL; rw [if_pos hB]
 rw [e]
 clear e
 obtain ⟨h32, hgood⟩ := fds_good hB
 have hn32 : (n : Int) ≤ 32 := by have := HN.out; omega
 have HG := Lib.hid hgood
 clear hB hgood h32
 go_enter Tryz.func50, Tryz.ntmps50
 go_wp2_with fail
 refine (HX.out).mono ?_
 rintro e w1 ⟨rfl, hM1⟩
 have HM1 := Lib.hid hM1
 clear HX hM1
 go_wp2
 go_loopw [3, 11] (fun s3 s11 wr => ∃ k : Nat, k ≤ n ∧ s11 = .int .i64 k ∧ ∃ ap cp, s3 = .slice ap (secL (l.take k)).length cp ∧ Hid (OwnB wr w.heap.size (.slice ap (secL (l.take k)).length cp) (secL (l.take k)) ∧ Mod (fun _ => False) w wr)) (fun _ s11 _ => n - (intOf s11).toNat)
 case atStart => exact ⟨0, Nat.zero_le _, rfl, none, 0, rfl, ⟨OwnB.nil _ _, HM1.out⟩⟩
 case round =>
  clear HM1
  obtain ⟨k, hk, rfl, ap, cp, rfl, HR⟩ := hrel
  by_cases hkn : (k : Int) < n
  ·have hkl : k < l.length := by have := HN.out; omega
   have hs : l[k]? = some l[k] := List.getElem?_eq_getElem hkl
   generalize l[k] = s at hs
   obtain ⟨b, off, cp0, hv, _, _, hcs⟩ := fld_addr HV.out (by rintro rfl; simp at hkl)
   simp only [Value.slice.injEq] at hv
   obtain ⟨rfl, _, rfl⟩ := hv
   obtain ⟨g0, g1⟩ := hcs k s hs
   have g0' := HR.out.2.cellAt g0 (fun h => h)
   have g1' := HR.out.2.cellAt g1 (fun h => h)
   have hsk := HG.out s (List.mem_of_getElem? hs)
   have HS := Lib.hid hs
   obtain ⟨L, hL⟩ : ∃ x, x = secL (l.take (k + 1)) := ⟨_, rfl⟩
   have HLL := Lib.hid hL
   have HNEW : Hid (secL (l.take k) ++ [32] ++ textL s.n ++ textL s.v = L) := by show _ = _; rw [hL]; unfold secL; rw [take_snoc l k s hs, List.flatMap_append, List.flatMap_cons, List.flatMap_nil, List.append_nil]; simp [fdL]
   have HPOS : Hid (0 < L.length) := by show 0 < _; rw [← HNEW.out]; simp; omega
   have HLEN : Hid ((L.length : Int) ≤ 100000) := by
    show _ ≤ _
    rw [hL]
    have h1 := pack_len (l.take (k + 1)) (fun f hf => by have := HG.out f (List.mem_of_mem_take hf); omega)
    have h3 : (l.take (k + 1)).length ≤ 32 := by rw [List.length_take]; omega
    omega
   have HT1 : Hid (∀ X, Mod (fun _ => False) w X → Calls Tryz.prog 92 #[strV s.n] X fun e w' => ∃ v, e = .returned v ∧ OwnB w' X.heap.size v (textL s.n) ∧ Mod (fun _ => False) X w') := fun X h => HPU.out s.n (by have := hsk.2.1; omega) X h
   have HT2 : Hid (∀ X, Mod (fun _ => False) w X → Calls Tryz.prog 92 #[strV s.v] X fun e w' => ∃ v, e = .returned v ∧ OwnB w' X.heap.size v (textL s.v) ∧ Mod (fun _ => False) X w') := fun X h => HPU.out s.v (by have := hsk.2.2.1; omega) X h
   clear g0 g1 hs hcs hkl hsk hL HPU
   unfold strV at *
   generalize (ByteArray.mk s.n.toArray) = s1 at *
   generalize (ByteArray.mk s.v.toArray) = s2 at *
   obtain ⟨acc, hacc⟩ : ∃ x, x = secL (l.take k) := ⟨_, rfl⟩
   rw [← hacc] at HR HNEW ⊢
   clear hacc
   obtain ⟨n0, hn0⟩ : ∃ x, x = acc.length := ⟨_, rfl⟩
   rw [← hn0] at HR ⊢
   clear hn0
   go_wp2_with ((with_reducible refine wpList_store_blk ?_ 39 (.tmp 5) (.tmp 14) ?_ wr.heap.size ?_ #[.string ⟨#[]⟩, .string ⟨#[]⟩] #[.string s1, .string s2] ?_ 39 (Blk.new _ _ _) (size52 _ _) ?_ ?_ ?_); (iterate 5 exact rfl); (· intro v hv; simp at hv; rcases hv with rfl | rfl <;> rfl); intro wx hBx hMx; have HMz := Lib.hid (((Mod.refl (fun _ => False) wr).alloc _).trans' hMx (fun i hi e => by omega)); have HMx := Lib.hid (HR.out.2.trans HMz.out); have x0 : wx.cell? ⟨wr.heap.size, 0, none⟩ = some (.string s1) := hBx.cellAt 0 rfl; have x1 : wx.cell? ⟨wr.heap.size, 1, none⟩ = some (.string s2) := hBx.cellAt 1 rfl; clear hBx hMx)
   have hd : Mod (fun _ => False) wx wx.drew := (Mod.refl _ _).drew
   have x0d := hd.cellAt x0 (fun h => h)
   have x1d := hd.cellAt x1 (fun h => h)
   have HT1 := Lib.hid (fun X (h : Mod (fun _ => False) wx X) => HT1.out X (HMx.out.trans h))
   have HT2 := Lib.hid (fun X (h : Mod (fun _ => False) wx X) => HT2.out X (HMx.out.trans h))
   have HACCB := Lib.hid (byts_kept HR.out.1.byts HMz.out)
   refine wp_region_held_drew (S := fun X => X.cell? ⟨wr.heap.size, 0, none⟩ = some (.string s1) ∧ X.cell? ⟨wr.heap.size, 1, none⟩ = some (.string s2) ∧ Mod (fun _ => False) wx X) (by kernel_rfl) ⟨x0d, x1d, hd⟩ (fun hS => ?_)
   refine wpAnyH_take (i := 0) (v := .slice ap n0 cp) rfl (by kernel_rfl) (by kernel_rfl) (by kernel_rfl) (fun _ _ _ h => h) (Or.inl ⟨by rfl, fun X hX => ?_⟩) hS ?_
   ·go_simp
   refine wpAnyH_take (i := 2) (v := .pointer (some ⟨wr.heap.size, 0, none⟩)) rfl (by kernel_rfl) (by kernel_rfl) (by kernel_rfl) (fun _ _ _ h => h) (Or.inl ⟨by rfl, fun X hX => ?_⟩) hS ?_
   ·go_simp
   refine wpAnyH_take (i := 3) (v := .string s1) rfl (by kernel_rfl) (by kernel_rfl) (by kernel_rfl) (fun _ _ _ h => h) (Or.inl ⟨by rfl, fun X hX => ?_⟩) hS ?_
   ·have := hX.1; go_simp
   refine wpAnyH_take (i := 5) (v := .pointer (some ⟨wr.heap.size, 1, none⟩)) rfl (by kernel_rfl) (by kernel_rfl) (by kernel_rfl) (fun _ _ _ h => h) (Or.inl ⟨by rfl, fun X hX => ?_⟩) hS ?_
   ·go_simp
   refine wpAnyH_take (i := 6) (v := .string s2) rfl (by kernel_rfl) (by kernel_rfl) (by kernel_rfl) (fun _ _ _ h => h) (Or.inl ⟨by rfl, fun X hX => ?_⟩) hS ?_
   ·have := hX.2.1; go_simp
   refine wpAnyH_ready (rs := [1, 4]) (by kernel_rfl) (by simp) ?_
   refine (AllReadyH.cons rfl (fun K hK => ?_) (AllReadyH.cons rfl (fun K hK => ?_) AllReadyH.nil))
   ·go_simp
    have hk1 : Mod (fun _ => False) wx.drew (wx.drew.alloc (.cells #[.int .u8 32] 5)) := (Mod.refl _ _).alloc _
    have hm1 := hd.trans hk1
    have hb16_1 := byts_lit wx.drew [32] #[.int .u8 32] 1 rfl rfl (by decide)
    refine hK.out _ _ ⟨hm1.cellAt x0 (fun h => h), hm1.cellAt x1 (fun h => h), hm1⟩ (fun hS => ?_)
    clear hK K
    refine wpAnyH_ready (rs := [4]) (by kernel_rfl) (by simp) ?_
    refine AllReadyH.cons rfl (fun K hK => ?_) AllReadyH.nil
    go_simp
    refine (HT1.out (wx.drew.alloc (.cells #[.int .u8 32] 5)) hm1).mono ?_
    rintro e Y2 ⟨v2, rfl, ho2, hk2⟩
    have hm2 := hm1.trans hk2
    have hb16_2 := byts_kept hb16_1 hk2
    have hb19_2 := ho2.byts
    obtain ⟨a2, c2, rfl, _⟩ := byts_val hb19_2
    refine hK.out _ _ ⟨hm2.cellAt x0 (fun h => h), hm2.cellAt x1 (fun h => h), hm2⟩ (fun hS => ?_)
    clear hK K
    refine wpAnyH_ready (rs := [7]) (by kernel_rfl) (by simp) ?_
    refine AllReadyH.cons rfl (fun K hK => ?_) AllReadyH.nil
    go_simp
    refine (HT2.out Y2 hm2).mono ?_
    rintro e Y3 ⟨v3, rfl, ho3, hk3⟩
    have hm3 := hm2.trans hk3
    have hb16_3 := byts_kept hb16_2 hk3
    have hb19_3 := byts_kept hb19_2 hk3
    have hb22_3 := ho3.byts
    obtain ⟨a3, c3, rfl, _⟩ := byts_val hb22_3
    refine hK.out _ _ ⟨hm3.cellAt x0 (fun h => h), hm3.cellAt x1 (fun h => h), hm3⟩ (fun hS => ?_)
    clear hK K
    have hR := hm3.alloc (.cells #[.slice ap n0 cp, .slice (some ⟨wx.drew.heap.size, 0, none⟩) 1 1, .slice a2 (textL s.n).length c2, .slice a3 (textL s.v).length c3] 31)
    have bR := Blk.new Y3 #[.slice ap n0 cp, .slice (some ⟨wx.drew.heap.size, 0, none⟩) 1 1, .slice a2 (textL s.n).length c2, .slice a3 (textL s.v).length c3] 31
    have kR : Mod (fun _ => False) Y3 (Y3.alloc (.cells #[.slice ap n0 cp, .slice (some ⟨wx.drew.heap.size, 0, none⟩) 1 1, .slice a2 (textL s.n).length c2, .slice a3 (textL s.v).length c3] 31)) := (Mod.refl _ _).alloc _
    refine wpAnyH_ready (rs := [8]) (by kernel_rfl) (by simp) ?_
    refine AllReadyH.cons rfl (fun K hK => ?_) AllReadyH.nil
    go_simp
    refine hK.out _ _ ⟨hR.cellAt x0 (fun h => h), hR.cellAt x1 (fun h => h), hR⟩ (fun hS => ?_)
    clear hK K
    refine wpAnyH_ready (rs := [9]) (by kernel_rfl) (by simp) ?_
    refine AllReadyH.cons rfl (fun K hK => ?_) AllReadyH.nil
    go_simp
    refine (hconcat4 bR (byts_kept HACCB.out hR) (byts_kept hb16_3 kR) (byts_kept hb19_3 kR) (byts_kept hb22_3 kR) HNEW.out HLEN.out HPOS.out).mono ?_
    rintro e Y9 ⟨v9, rfl, ho9, hk9⟩
    have hm9 := hR.trans hk9
    obtain ⟨a9, c9, rfl, _⟩ := byts_val ho9.byts
    refine hK.out _ _ ⟨hm9.cellAt x0 (fun h => h), hm9.cellAt x1 (fun h => h), hm9⟩ (fun hS => ?_)
    clear hK K
    refine wpAnyH_ready (rs := [10]) (by kernel_rfl) (by simp) ?_
    refine AllReadyH.cons rfl (fun K hK => ?_) AllReadyH.nil
    go_simp
    refine hK.out _ _ ⟨hm9.cellAt x0 (fun h => h), hm9.cellAt x1 (fun h => h), hm9⟩ (fun hS => ?_)
    clear hK K
    refine wpAnyH_done (by kernel_rfl) ?_ _
    have HO3 := Lib.hid (ho9.mono (B' := w.heap.size) (by have := HMx.out.size; have := hR.size; omega))
    have HM3 := Lib.hid (HMx.out.trans hm9)
    clear ho9 hm9 hk9 hR bR kR hS
    rw [HLL.out] at HO3 ⊢
    go_wp2
    go_roundw
    case rel => exact ⟨k + 1, by omega, by go_num, a9, c9, rfl, ⟨HO3.out, HM3.out⟩⟩
    case measure => simp [intOf]; omega
   ·go_simp
    refine (HT1.out wx.drew hd).mono ?_
    rintro e Y1 ⟨v1, rfl, ho1, hk1⟩
    have hm1 := hd.trans hk1
    have hb19_1 := ho1.byts
    obtain ⟨a1, c1, rfl, _⟩ := byts_val hb19_1
    refine hK.out _ _ ⟨hm1.cellAt x0 (fun h => h), hm1.cellAt x1 (fun h => h), hm1⟩ (fun hS => ?_)
    clear hK K
    refine wpAnyH_ready (rs := [1, 7]) (by kernel_rfl) (by simp) ?_
    refine (AllReadyH.cons rfl (fun K hK => ?_) (AllReadyH.cons rfl (fun K hK => ?_) AllReadyH.nil))
    ·go_simp
     have hk2 : Mod (fun _ => False) Y1 (Y1.alloc (.cells #[.int .u8 32] 5)) := (Mod.refl _ _).alloc _
     have hm2 := hm1.trans hk2
     have hb19_2 := byts_kept hb19_1 hk2
     have hb16_2 := byts_lit Y1 [32] #[.int .u8 32] 1 rfl rfl (by decide)
     refine hK.out _ _ ⟨hm2.cellAt x0 (fun h => h), hm2.cellAt x1 (fun h => h), hm2⟩ (fun hS => ?_)
     clear hK K
     refine wpAnyH_ready (rs := [7]) (by kernel_rfl) (by simp) ?_
     refine AllReadyH.cons rfl (fun K hK => ?_) AllReadyH.nil
     go_simp
     refine (HT2.out (Y1.alloc (.cells #[.int .u8 32] 5)) hm2).mono ?_
     rintro e Y3 ⟨v3, rfl, ho3, hk3⟩
     have hm3 := hm2.trans hk3
     have hb19_3 := byts_kept hb19_2 hk3
     have hb16_3 := byts_kept hb16_2 hk3
     have hb22_3 := ho3.byts
     obtain ⟨a3, c3, rfl, _⟩ := byts_val hb22_3
     refine hK.out _ _ ⟨hm3.cellAt x0 (fun h => h), hm3.cellAt x1 (fun h => h), hm3⟩ (fun hS => ?_)
     clear hK K
     have hR := hm3.alloc (.cells #[.slice ap n0 cp, .slice (some ⟨Y1.heap.size, 0, none⟩) 1 1, .slice a1 (textL s.n).length c1, .slice a3 (textL s.v).length c3] 31)
     have bR := Blk.new Y3 #[.slice ap n0 cp, .slice (some ⟨Y1.heap.size, 0, none⟩) 1 1, .slice a1 (textL s.n).length c1, .slice a3 (textL s.v).length c3] 31
     have kR : Mod (fun _ => False) Y3 (Y3.alloc (.cells #[.slice ap n0 cp, .slice (some ⟨Y1.heap.size, 0, none⟩) 1 1, .slice a1 (textL s.n).length c1, .slice a3 (textL s.v).length c3] 31)) := (Mod.refl _ _).alloc _
     refine wpAnyH_ready (rs := [8]) (by kernel_rfl) (by simp) ?_
     refine AllReadyH.cons rfl (fun K hK => ?_) AllReadyH.nil
     go_simp
     refine hK.out _ _ ⟨hR.cellAt x0 (fun h => h), hR.cellAt x1 (fun h => h), hR⟩ (fun hS => ?_)
     clear hK K
     refine wpAnyH_ready (rs := [9]) (by kernel_rfl) (by simp) ?_
     refine AllReadyH.cons rfl (fun K hK => ?_) AllReadyH.nil
     go_simp
     refine (hconcat4 bR (byts_kept HACCB.out hR) (byts_kept hb16_3 kR) (byts_kept hb19_3 kR) (byts_kept hb22_3 kR) HNEW.out HLEN.out HPOS.out).mono ?_
     rintro e Y9 ⟨v9, rfl, ho9, hk9⟩
     have hm9 := hR.trans hk9
     obtain ⟨a9, c9, rfl, _⟩ := byts_val ho9.byts
     refine hK.out _ _ ⟨hm9.cellAt x0 (fun h => h), hm9.cellAt x1 (fun h => h), hm9⟩ (fun hS => ?_)
     clear hK K
     refine wpAnyH_ready (rs := [10]) (by kernel_rfl) (by simp) ?_
     refine AllReadyH.cons rfl (fun K hK => ?_) AllReadyH.nil
     go_simp
     refine hK.out _ _ ⟨hm9.cellAt x0 (fun h => h), hm9.cellAt x1 (fun h => h), hm9⟩ (fun hS => ?_)
     clear hK K
     refine wpAnyH_done (by kernel_rfl) ?_ _
     have HO3 := Lib.hid (ho9.mono (B' := w.heap.size) (by have := HMx.out.size; have := hR.size; omega))
     have HM3 := Lib.hid (HMx.out.trans hm9)
     clear ho9 hm9 hk9 hR bR kR hS
     rw [HLL.out] at HO3 ⊢
     go_wp2
     go_roundw
     case rel => exact ⟨k + 1, by omega, by go_num, a9, c9, rfl, ⟨HO3.out, HM3.out⟩⟩
     case measure => simp [intOf]; omega
    ·go_simp
     refine (HT2.out Y1 hm1).mono ?_
     rintro e Y2 ⟨v2, rfl, ho2, hk2⟩
     have hm2 := hm1.trans hk2
     have hb19_2 := byts_kept hb19_1 hk2
     have hb22_2 := ho2.byts
     obtain ⟨a2, c2, rfl, _⟩ := byts_val hb22_2
     refine hK.out _ _ ⟨hm2.cellAt x0 (fun h => h), hm2.cellAt x1 (fun h => h), hm2⟩ (fun hS => ?_)
     clear hK K
     refine wpAnyH_ready (rs := [1]) (by kernel_rfl) (by simp) ?_
     refine AllReadyH.cons rfl (fun K hK => ?_) AllReadyH.nil
     go_simp
     have hk3 : Mod (fun _ => False) Y2 (Y2.alloc (.cells #[.int .u8 32] 5)) := (Mod.refl _ _).alloc _
     have hm3 := hm2.trans hk3
     have hb19_3 := byts_kept hb19_2 hk3
     have hb22_3 := byts_kept hb22_2 hk3
     have hb16_3 := byts_lit Y2 [32] #[.int .u8 32] 1 rfl rfl (by decide)
     refine hK.out _ _ ⟨hm3.cellAt x0 (fun h => h), hm3.cellAt x1 (fun h => h), hm3⟩ (fun hS => ?_)
     clear hK K
     have hR := hm3.alloc (.cells #[.slice ap n0 cp, .slice (some ⟨Y2.heap.size, 0, none⟩) 1 1, .slice a1 (textL s.n).length c1, .slice a2 (textL s.v).length c2] 31)
     have bR := Blk.new (Y2.alloc (.cells #[.int .u8 32] 5)) #[.slice ap n0 cp, .slice (some ⟨Y2.heap.size, 0, none⟩) 1 1, .slice a1 (textL s.n).length c1, .slice a2 (textL s.v).length c2] 31
     rw [show (Y2.alloc (.cells #[.int .u8 32] 5)).heap.size = Y2.heap.size + 1 by simp] at bR
     have kR : Mod (fun _ => False) (Y2.alloc (.cells #[.int .u8 32] 5)) ((Y2.alloc (.cells #[.int .u8 32] 5)).alloc (.cells #[.slice ap n0 cp, .slice (some ⟨Y2.heap.size, 0, none⟩) 1 1, .slice a1 (textL s.n).length c1, .slice a2 (textL s.v).length c2] 31)) := (Mod.refl _ _).alloc _
     refine wpAnyH_ready (rs := [8]) (by kernel_rfl) (by simp) ?_
     refine AllReadyH.cons rfl (fun K hK => ?_) AllReadyH.nil
     go_simp
     refine hK.out _ _ ⟨hR.cellAt x0 (fun h => h), hR.cellAt x1 (fun h => h), hR⟩ (fun hS => ?_)
     clear hK K
     refine wpAnyH_ready (rs := [9]) (by kernel_rfl) (by simp) ?_
     refine AllReadyH.cons rfl (fun K hK => ?_) AllReadyH.nil
     go_simp
     refine (hconcat4 bR (byts_kept HACCB.out hR) (byts_kept hb16_3 kR) (byts_kept hb19_3 kR) (byts_kept hb22_3 kR) HNEW.out HLEN.out HPOS.out).mono ?_
     rintro e Y9 ⟨v9, rfl, ho9, hk9⟩
     have hm9 := hR.trans hk9
     obtain ⟨a9, c9, rfl, _⟩ := byts_val ho9.byts
     refine hK.out _ _ ⟨hm9.cellAt x0 (fun h => h), hm9.cellAt x1 (fun h => h), hm9⟩ (fun hS => ?_)
     clear hK K
     refine wpAnyH_ready (rs := [10]) (by kernel_rfl) (by simp) ?_
     refine AllReadyH.cons rfl (fun K hK => ?_) AllReadyH.nil
     go_simp
     refine hK.out _ _ ⟨hm9.cellAt x0 (fun h => h), hm9.cellAt x1 (fun h => h), hm9⟩ (fun hS => ?_)
     clear hK K
     refine wpAnyH_done (by kernel_rfl) ?_ _
     have HO3 := Lib.hid (ho9.mono (B' := w.heap.size) (by have := HMx.out.size; have := hR.size; omega))
     have HM3 := Lib.hid (HMx.out.trans hm9)
     clear ho9 hm9 hk9 hR bR kR hS
     rw [HLL.out] at HO3 ⊢
     go_wp2
     go_roundw
     case rel => exact ⟨k + 1, by omega, by go_num, a9, c9, rfl, ⟨HO3.out, HM3.out⟩⟩
     case measure => simp [intOf]; omega
  ·have hkn' : k = n := by omega
   have hall : l.take k = l := List.take_of_length_le (by have := HN.out; omega)
   rw [hall] at HR ⊢
   obtain ⟨L, hL⟩ : ∃ x, x = secL l := ⟨_, rfl⟩
   rw [← hL] at HR ⊢
   have HL := Lib.hid hL
   clear hL
   generalize L.length = nL at *
   go_wp2
   go_ret
   exact ⟨_, rfl, by rw [← HL.out]; exact HR.out.1, HR.out.2⟩
end Go.Proofs.YtahgidkpjmecdaaGreatDoor
set_option maxRecDepth 100000
namespace Go.Proofs.YtahgidkpjmecdaaGreatDoor
open Go.RowKit Go.Maps
theorem built_hd (k : Int) (a : Option Addr) (n c : Nat) : Tryz.prog.built 77 [(0, .int .i64 k), (3, .slice a n c)] = some #[.int .i64 k, .int .u64 0, .slice none 0 0, .slice a n c] := by kernel_rfl
theorem hfv_d {w : World} (k : Int) {vd : Value} {l : List UInt8} (h : Byts w vd l) (hl : (l.length : Int) ≤ 140737488355328) : HFV w ⟨k, 0, [], l⟩ nilS vd := ⟨Sl.nil w 2, h, (by show ((0 : Nat) : Int) ≤ _; decide), hl⟩
theorem hput_lens {f : HF} : (hfputL f).length ≤ 1016 := by
 unfold hfputL
 split
 ·rename_i h
  have h1 := hputL_len f.k.toNat
  have h2 := hputL_len (bodyL f).length
  have h3 := hbody_len h
  simp only [List.length_append]
  omega
 ·simp
theorem packL_lens (l : List Fd) : (packL l).length ≤ 10000 := by
 unfold packL
 split
 ·rename_i h
  have h1 := fds_good h
  have h2 := pack_len l (fun f hf => ⟨(h1.2 f hf).2.1, (h1.2 f hf).2.2.1⟩)
  have h3 := h1.1
  show (secL l).length ≤ 10000
  omega
 ·simp
def PackR (w w' : World) (l : List Fd) (data : List UInt8) (e : Ending) : Prop := ∃ a c, e = .returned (.tuple #[.slice a (packO l data).length c, .int .i64 (packE l data)]) ∧ OwnB w' w.heap.size (.slice a (packO l data).length c) (packO l data) ∧ Mod (fun _ => False) w w'
theorem secO_nil (l : List Fd) : secO l [] = hfputL ⟨1, 0, [], packL l⟩ := by unfold secO; rw [if_pos rfl, List.append_nil]
theorem secO_cons (l : List Fd) {data : List UInt8} (h : data ≠ []) : secO l data = hfputL ⟨1, 0, [], packL l⟩ ++ hfputL ⟨0, 0, [], data⟩ := by unfold secO; rw [if_neg h]
theorem pack_long {l : List Fd} {data : List UInt8} (hb : fieldsB l = true) (h : 1000 < (packL l).length ∨ 1000 < data.length ∨ 1500 < (secO l data).length) : packE l data = 4 ∧ packO l data = [] := by
 have e : packE l data = 4 := by unfold packE; rw [if_neg (by rw [hb]; decide), if_pos h]
 exact ⟨e, by unfold packO; rw [if_neg (by rw [e]; decide)]⟩
theorem pack_ok {l : List Fd} {data : List UInt8} (hb : fieldsB l = true) (h : ¬ (1000 < (packL l).length ∨ 1000 < data.length ∨ 1500 < (secO l data).length)) : packE l data = 0 ∧ packO l data = secO l data := by
 have e : packE l data = 0 := by unfold packE; rw [if_neg (by rw [hb]; decide), if_neg h]
 exact ⟨e, by unfold packO; rw [if_pos e]⟩
theorem PackR.long {w w' : World} {l : List Fd} {data : List UInt8} (h : packE l data = 4 ∧ packO l data = []) (hM : Mod (fun _ => False) w w') : PackR w w' l data (.returned (.tuple #[.slice none 0 0, .int .i64 4])) :=
 ⟨none, 0, by rw [h.1, h.2]; rfl, by rw [h.2]; exact OwnB.nilI _ _, hM⟩
theorem PackR.good {w w' : World} {l : List Fd} {data : List UInt8} (h : packE l data = 0 ∧ packO l data = secO l data) {a : Option Addr} {n c : Nat} (hn : (secO l data).length = n) (ho : OwnB w' w.heap.size (.slice a n c) (secO l data)) (hM : Mod (fun _ => False) w w') : PackR w w' l data (.returned (.tuple #[.slice a n c, .int .i64 0])) :=
 ⟨a, c, by rw [h.1, h.2, hn], by rw [h.2, hn]; exact ho, hM⟩
set_option maxHeartbeats 4000000 in
set_option maxRecDepth 10000 in
theorem packed_any {w : World} {v dv : Value} {l : List Fd} {data : List UInt8} (hT : Tabs w) (hU : UTabs w) (hv : FldV w v l) (hn : (l.length : Int) ≤ 100000) (ho : FdsOk l) (hd : Byts w dv data) (hdl : (data.length : Int) ≤ 100000) :
  Calls Tryz.prog 28 #[v, dv] w fun e w' => PackR w w' l data e := by
 obtain ⟨da, dc, rfl, -⟩ := Sl.val hd
 have HF := Lib.hid (flds_any hU hv hn ho)
 cases hb : fieldsB l with
 | false =>
  rw [hb] at HF
  have e1 : packE l data = 1 := by unfold packE; rw [if_pos hb]
  have e2 : packO l data = [] := by unfold packO; rw [if_neg (by rw [e1]; decide)]
  have HE := Lib.hid (And.intro e1 e2)
  clear hT hU hv hn ho hd hb e1 e2
  generalize data.length = dn at *
  go_enter Tryz.func28, Tryz.ntmps28
  go_wp2_with (first
   | (go_at_call 49; (with_reducible refine HF.out.mono ?_); rintro e w1 ⟨rfl, hm⟩; have HM1 := Lib.hid hm; clear hm)
   | fail)
  go_ret2
  exact ⟨none, 0, by rw [HE.out.1, HE.out.2]; rfl, by rw [HE.out.2]; exact OwnB.nilI _ _, HM1.out⟩
 | true =>
  rw [hb] at HF
  have HPK := Lib.hid (fun w1 (hm : Mod (fun _ => False) w w1) => pack_any (hm.tabs hT (fun h => h)) (hU.kept hm) (hv.kept hm) hn ho)
  have HTT := Lib.hid hT
  have HD := Lib.hid hd
  have HPL := Lib.hid (packL_lens l)
  have HB := Lib.hid hb
  obtain ⟨sn, hsn⟩ : ∃ n : Nat, (packL l).length = n := ⟨_, rfl⟩
  have HSN := Lib.hid hsn
  obtain ⟨hl1, hh1⟩ : ∃ n : Nat, (hfputL ⟨1, 0, [], packL l⟩).length = n := ⟨_, rfl⟩
  have HH1 := Lib.hid hh1
  obtain ⟨hl2, hh2⟩ : ∃ n : Nat, (hfputL ⟨0, 0, [], data⟩).length = n := ⟨_, rfl⟩
  have HH2 := Lib.hid hh2
  have b1 : sn ≤ 10000 := by rw [← hsn]; exact packL_lens l
  have b2 : hl1 ≤ 1016 := by rw [← hh1]; exact hput_lens
  have b3 : hl2 ≤ 1016 := by rw [← hh2]; exact hput_lens
  have hdl' : (data.length : Int) ≤ 100000 := hdl
  clear hT hU hv hn ho hd hb hsn hh1 hh2 hdl
  by_cases h0 : data = []
  ·subst h0
   go_enter Tryz.func28, Tryz.ntmps28
   go_wp2_with (first
    | (go_at_call 49; (with_reducible refine HF.out.mono ?_); rintro e w1 ⟨rfl, hm⟩; have HM1 := Lib.hid hm; clear hm)
    | (go_at_call 50; (with_reducible refine (HPK.out _ HM1.out).mono ?_); rintro e w2 ⟨vs, rfl, hvs, hm⟩; obtain ⟨sa, sc, rfl, -⟩ := Sl.val hvs.byts; rw [HSN.out] at hvs; rw [HSN.out]; have HM2 := Lib.hid (HM1.out.trans hm); have HVS := Lib.hid hvs; have HPU : Hid (Calls Tryz.prog 27 #[.agg #[.int .i64 1, .int .u64 0, .slice none 0 0, .slice sa sn sc]] w2 fun e w' => ∃ v, e = .returned v ∧ OwnB w' w2.heap.size v (hfputL ⟨1, 0, [], packL l⟩) ∧ Mod (fun _ => False) w2 w') := Lib.hid (hput_any (HM2.out.tabs HTT.out (fun h => h)) (hfv_d 1 hvs.byts (by have := HPL.out; omega))); clear hvs hm)
    | ((with_reducible refine wpList_build_c ?_ 77 [(0, .const (.int .i64 1)), (3, .tmp 13)] ?_ [(0, .int .i64 1), (3, .slice sa sn sc)] ?_ _ (built_hd 1 sa sn sc) ?_); (iterate 3 exact rfl))
    | (go_at_call 27; (with_reducible refine HPU.out.mono ?_); rintro e w3 ⟨vp, rfl, hvp, hm⟩; obtain ⟨pa, pc, rfl, -⟩ := Sl.val hvp.byts; rw [HH1.out] at hvp; rw [HH1.out]; have HM3 := Lib.hid (HM2.out.trans hm); have HVP := Lib.hid hvp; clear hvp hm)
    | fail)
   all_goals (
    go_ret2
    first
     | exact PackR.good (pack_ok HB.out (by rw [HSN.out, secO_nil, HH1.out]; simp; omega)) (by rw [secO_nil, HH1.out]) (by rw [secO_nil]; exact HVP.out.base HM2.out.size) HM3.out
     | exact PackR.long (pack_long HB.out (by rw [HSN.out, secO_nil, HH1.out]; simp; omega)) HM3.out)
  ·have hp : 0 < data.length := by
    cases data with
    | nil => exact absurd rfl h0
    | cons x r => simp
   have HS2 := Lib.hid (secO_cons l h0)
   have HDL : Hid ((data.length : Int) ≤ 140737488355328) := Lib.hid (by omega)
   obtain ⟨dn, hdn⟩ : ∃ n : Nat, data.length = n := ⟨_, rfl⟩
   rw [hdn] at hp hdl' ⊢
   have HDN := Lib.hid hdn
   have HD2 : Hid (Byts w (.slice da dn dc) data) := Lib.hid (by have h := HD.out; rw [hdn] at h; exact h)
   clear hdn h0
   go_enter Tryz.func28, Tryz.ntmps28
   go_wp2_with (first
    | (go_at_call 49; (with_reducible refine HF.out.mono ?_); rintro e w1 ⟨rfl, hm⟩; have HM1 := Lib.hid hm; clear hm)
    | (go_at_call 50; (with_reducible refine (HPK.out _ HM1.out).mono ?_); rintro e w2 ⟨vs, rfl, hvs, hm⟩; obtain ⟨sa, sc, rfl, -⟩ := Sl.val hvs.byts; rw [HSN.out] at hvs; rw [HSN.out]; have HM2 := Lib.hid (HM1.out.trans hm); have HVS := Lib.hid hvs; have HPU : Hid (Calls Tryz.prog 27 #[.agg #[.int .i64 1, .int .u64 0, .slice none 0 0, .slice sa sn sc]] w2 fun e w' => ∃ v, e = .returned v ∧ OwnB w' w2.heap.size v (hfputL ⟨1, 0, [], packL l⟩) ∧ Mod (fun _ => False) w2 w') := Lib.hid (hput_any (HM2.out.tabs HTT.out (fun h => h)) (hfv_d 1 hvs.byts (by have := HPL.out; omega))); clear hvs hm)
    | ((with_reducible refine wpList_build_c ?_ 77 [(0, .const (.int .i64 1)), (3, .tmp 13)] ?_ [(0, .int .i64 1), (3, .slice sa sn sc)] ?_ _ (built_hd 1 sa sn sc) ?_); (iterate 3 exact rfl))
    | (go_at_call 27; (with_reducible refine HPU.out.mono ?_); rintro e w3 ⟨vp, rfl, hvp, hm⟩; obtain ⟨pa, pc, rfl, -⟩ := Sl.val hvp.byts; rw [HH1.out] at hvp; rw [HH1.out]; have HM3 := Lib.hid (HM2.out.trans hm); have HVP := Lib.hid hvp; have HW3 := Lib.hid hm.size; have HPV : Hid (Calls Tryz.prog 27 #[.agg #[.int .i64 0, .int .u64 0, .slice none 0 0, .slice da dn dc]] w3 fun e w' => ∃ v, e = .returned v ∧ OwnB w' w3.heap.size v (hfputL ⟨0, 0, [], data⟩) ∧ Mod (fun _ => False) w3 w') := Lib.hid (hput_any (HM3.out.tabs HTT.out (fun h => h)) (hfv_d 0 (byts_kept HD2.out HM3.out) HDL.out)); clear hvp hm)
    | ((with_reducible refine wpList_build_c ?_ 77 [(0, .const (.int .i64 0)), (3, .tmp 20)] ?_ [(0, .int .i64 0), (3, .slice da dn dc)] ?_ _ (built_hd 0 da dn dc) ?_); (iterate 3 exact rfl))
    | (go_at_call 27; go_loud ((with_reducible refine HPV.out.mono ?_); rintro e w4 ⟨vq, rfl, hvq, hm⟩; obtain ⟨qa, qc, rfl, -⟩ := Sl.val hvq.byts; rw [HH2.out] at hvq; rw [HH2.out]; have HM4 := Lib.hid (HM3.out.trans hm); have HVP4 := Lib.hid (HVP.out.keptF hm); have HVQ := Lib.hid hvq; have HWP : Hid (w2.heap.size ≤ w4.heap.size) := Lib.hid (Nat.le_trans HW3.out hm.size); clear hvq hm))
    | ((with_reducible refine wpList_append_b ?_ (.tmp 19) (.tmp 22) ?_ (.slice pa hl1 pc) (hfputL ⟨1, 0, [], packL l⟩) w2.heap.size (hl1 + hl2) ?_ HVP4.out (.slice qa hl2 qc) (hfputL ⟨0, 0, [], data⟩) ?_ HVQ.out.byts (hfputL ⟨1, 0, [], packL l⟩ ++ hfputL ⟨0, 0, [], data⟩) ?_ ?_ ?_ ?_ ?_); (iterate 5 exact rfl); (· rw [HH1.out, HH2.out]); (· omega); (· exact HWP.out); intro ap cp w5 hA; have HA := Lib.hid hA; clear hA)
    | fail)
   all_goals (
    go_ret2
    first
     | exact PackR.good (n := hl1 + hl2) (pack_ok HB.out (by rw [HSN.out, HDN.out, HS2.out, List.length_append, HH1.out, HH2.out]; omega)) (by rw [HS2.out, List.length_append, HH1.out, HH2.out]) (by rw [HS2.out]; exact HA.out.own.base HM2.out.size) (HA.out.modF HM4.out HM2.out.size)
     | exact PackR.long (pack_long HB.out (by rw [HSN.out, HDN.out, HS2.out, List.length_append, HH1.out, HH2.out]; omega)) (HA.out.modF HM4.out HM2.out.size))
end Go.Proofs.YtahgidkpjmecdaaGreatDoor
