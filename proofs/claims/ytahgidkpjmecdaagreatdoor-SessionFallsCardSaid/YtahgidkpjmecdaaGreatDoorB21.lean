/- Parts of the proof: YfI YfJ YfK. -/
import Derived.Test.YtahgidkpjmecdaaGreatDoorB02
import Derived.Test.YtahgidkpjmecdaaGreatDoorB20
import Derived.Maps.OwnSet
set_option maxRecDepth 100000
namespace Go.Proofs.YtahgidkpjmecdaaGreatDoor
open Go.RowKit
def hfC (f : HF) (vs vd : Value) : Array Value := #[.int .i64 f.k, .int .u64 (f.id : Int), vs, vd]
def OwnS (w : World) (B : Nat) (v : Value) (l : List (Nat × Nat)) : Prop := w.ownsRow B 74 2 v l.length (l.flatMap setC)
theorem OwnS.setv {w : World} {B : Nat} {v : Value} {l : List (Nat × Nat)} (h : OwnS w B v l) : SetV w v l := Sl.ofOwn h
theorem OwnS.nil (w : World) (B : Nat) : OwnS w B (.slice none 0 0) [] := World.ownsRow_nil _ _ _ _
theorem OwnS.kept {S : Nat → Prop} {w w' : World} {B : Nat} {v : Value} {l : List (Nat × Nat)} (h : OwnS w B v l) (hM : Mod S w w') (hS : ∀ g, v.ownBlock = some g → ¬ S g) : OwnS w' B v l := hM.own h hS
theorem OwnS.alloc {w : World} {B : Nat} {v : Value} {l : List (Nat × Nat)} (h : OwnS w B v l) (o : Obj) : OwnS (w.alloc o) B v l := h.kept ((Mod.refl (fun _ => False) _).alloc o) (fun _ _ h => h)
theorem OwnS.apart {w : World} {B b : Nat} {v : Value} {l : List (Nat × Nat)} {C : Array Value} {T : TypeId} (h : OwnS w B v l) (hb : Blk w b C T) (ht : T ≠ 74) : ¬ v.ownBlock = some b := by
 intro e
 rcases h.2 with ⟨rfl, _⟩ | ⟨g, cap, cur, rfl, _, hg, _⟩
 ·simp [Value.ownBlock] at e
 ·simp [Value.ownBlock] at e
  subst e
  exact Blk.ne hb (show Blk w g cur 74 from hg) ht rfl
theorem infoSet : (Tryz.prog.info? 74).map (fun i => (i.zero, i.size, i.bytes)) = some (some (.agg #[.int .u64 0, .int .u64 0]), 2, 16) := by kernel_rfl
theorem step_append_set {w : World} {ops : Array Oper} {o : Oper} {a : Act} {K : Act → World → Prop} {Q : Exit → Act → World → Prop} {E : Prop} (hgd : o.guard = none) (s x : Operand)
  (ho : o.op = .call { callee := .builtin .append, args := #[s, x], argTypes := #[75, 75] })
  (v : Value) (l : List (Nat × Nat)) (B : Nat) (hs : a.eval s = v) (hown : OwnS w B v l)
  (sv : Value) (new : Nat × Nat) (hx : a.eval x = sv) (hsl : SetV w sv [new]) (n : Nat) (hln : l.length = n) (hn : n ≤ 100000) (hbase : B ≤ w.heap.size)
  (h : ∀ ap cp w', OwnS w' B (.slice ap (n + 1) cp) (l ++ [new]) → w.grownBy w' v.ownBlock → K (a.put o.dst (.slice ap (n + 1) cp)) w') :
  if Region.wanted o (yielded ops a.tmps) = true then Oper.wp Tryz.prog o a w K Q else E := by
 subst hln
 obtain ⟨i0, hi, hz0, hz1, hz2⟩ := info_parts infoSet
 refine step_append_sl hgd s x 75 ho B 74 i0 _ 2 16 Tryz.underlying75 hi hz0 hz1 hz2 rfl (by decide) v l.length (l.flatMap setC) hs hown sv 1 ([new].flatMap setC) hx hsl (setC_one _) (by omega) (by decide) hbase ?_
 intro v' w' ho' hg
 have ho2 : OwnS w' B v' (l ++ [new]) := by unfold OwnS; simpa using ho'
 obtain ⟨ap, cp, rfl, _⟩ := set_val ho2.setv
 have e : (l ++ [new]).length = l.length + 1 := by simp
 rw [e] at ho2 ⊢
 exact h ap cp w' ho2 hg
theorem set_one (w : World) (s : Nat × Nat) : SetV (w.alloc (.cells #[.int .u64 (s.1 : Int), .int .u64 (s.2 : Int)] 74)) (.slice (some ⟨w.heap.size, 0, none⟩) 1 1) [s] := by
 have hb := Blk.new w #[.int .u64 (s.1 : Int), .int .u64 (s.2 : Int)] 74
 refine ⟨by simp [setC], some ⟨w.heap.size, 0, none⟩, 1, rfl, Nat.le_refl _, by decide, fun e => by simp at e, fun j u hu => ⟨w.heap.size, 0, rfl, ?_⟩⟩
 simp only [List.flatMap_cons, List.flatMap_nil, List.append_nil, setC] at hu
 rw [Nat.zero_add]
 match j, hu with
 | 0, hu => simp at hu; subst hu; exact hb.cellAt 0 rfl
 | 1, hu => simp at hu; subst hu; exact hb.cellAt 1 rfl
 | (_ + 2), hu => simp at hu
theorem OwnB.hapart {w : World} {B b : Nat} {v : Value} {l : List UInt8} {C : Array Value} {T : TypeId} (h : OwnB w B v l) (hb : Blk w b C T) (ht : T ≠ 5) : ¬ v.ownBlock = some b := by
 intro e
 rcases h.2 with ⟨rfl, _⟩ | ⟨g, cap, cur, rfl, _, hg, _⟩
 ·simp [Value.ownBlock] at e
 ·simp [Value.ownBlock] at e
  subst e
  exact Blk.ne hb (show Blk w g cur 5 from hg) ht rfl
structure HFO (w : World) (B : Nat) (f : HF) (vs vd : Value) : Prop where
 st : OwnS w B vs f.st
 d : OwnB w B vd f.d
 sl : (f.st.length : Int) ≤ 100000
 dl : (f.d.length : Int) ≤ 140737488355328
theorem HFO.val {w : World} {B : Nat} {f : HF} {vs vd : Value} (h : HFO w B f vs vd) : HFV w f vs vd := ⟨h.st.setv, h.d.byts, h.sl, h.dl⟩
theorem HFO.kept {S : Nat → Prop} {w w' : World} {B : Nat} {f : HF} {vs vd : Value} (h : HFO w B f vs vd) (hM : Mod S w w') (hS : ∀ k, S k → k < B) : HFO w' B f vs vd :=
 ⟨h.st.kept hM (fun g hg hs => by have := (World.ownsRow.lt h.st g hg).1; have := hS g hs; omega), h.d.kept hM (fun g hg hs => by have := (World.ownsRow.lt h.d g hg).1; have := hS g hs; omega), h.sl, h.dl⟩
def KRes (k : Nat) (b : List UInt8) (rb fb : Nat) (w w' : World) : Prop :=
 ∃ vs vd, HFO w' w.heap.size (readK k b).1 vs vd ∧ Blk w' fb (hfC (readK k b).1 vs vd) 77 ∧ Rdr w' rb (readK k b).2 ∧ Mod (fun j => j = rb ∨ j = fb) w w'
def KReads (fn k : Nat) : Prop := ∀ (w : World) (rb fb : Nat) (b : List UInt8), (b.length : Int) ≤ 100000 → Rdr w rb ⟨b, 0⟩ → Blk w fb (hfC ⟨(k : Int), 0, [], []⟩ (.slice none 0 0) (.slice none 0 0)) 77 →
 Calls Tryz.prog fn #[.pointer (some ⟨rb, 0, none⟩), .pointer (some ⟨fb, 0, none⟩)] w fun e w' => e = .returned (.tuple #[]) ∧ KRes k b rb fb w w'
theorem rdr_ne {w : World} {rb fb : Nat} {s : RS} {C : Array Value} {T : TypeId} (h : Rdr w rb s) (hf : Blk w fb C T) (ht : T ≠ 193) : ¬ fb = rb := by
 obtain ⟨_, a, cap, hb, _⟩ := h
 exact hf.ne hb ht
theorem rdr_set {w : World} {rb fb : Nat} {s : RS} {C : Array Value} {p : Addr} {v : Value} (h : Rdr w rb s) (hf : Blk w fb C 77) (hp : p.block = fb) : Rdr (w.setCell p v) rb s := by
 have hM : Mod (fun k => k = fb) w (w.setCell p v) := (Mod.refl _ w).setCell (fun _ => hp) v
 refine hM.rdr h (fun e => rdr_ne h hf (by decide) e.symm) (fun b cs hb e => ?_)
 exact hf.ne hb (by decide) e.symm
set_option maxHeartbeats 4000000 in
set_option maxRecDepth 10000 in
theorem kread_data (k : Nat) (hk : k = 0 ∨ k = 1) : KReads 77 k := by
 intro w rb fb b hlen hr hf
 have hne := rdr_ne hr hf (by decide)
 have HR := Lib.hid hr
 have HF := Lib.hid hf
 have hc3 := hf.cellAt 3 rfl
 have HK : Hid (readK k b = (⟨(k : Int), 0, [], b⟩, ⟨[], 0⟩)) := by
  show _ = _
  unfold readK
  rw [if_pos (by unfold isData; rcases hk with rfl | rfl <;> rfl)]
 have HB : Hid (RS.bytes ⟨b, 0⟩ b.length = (b, ⟨[], 0⟩)) := by show _ = _; simp [RS.bytes]
 have hw : IntKind.u64.wrap (b.length : Int) = b.length := IntWalk.u64_in _ (by omega)
 have HBY := Lib.hid (bytes_any b.length hr)
 rw [HB.out] at HBY
 have HLEN : Hid ((b.length : Int) ≤ 140737488355328) := by show _ ≤ _; omega
 clear hr hf hk
 have hl := left_any HR.out
 show Calls _ _ _ _ _
 generalize hnl : b.length = nl at *
 go_enter Tryz.func77, Tryz.ntmps77
 go_wp2_with (first | (go_at_call 79; refine (hl).mono ?_; rintro e w' ⟨rfl, rfl⟩) | fail)
 refine (HBY.out).mono ?_
 rintro e w1 ⟨v, rfl, ho, hr1, hM1⟩
 have hb1 := hM1.blk HF.out hne
 have hc1 := hb1.cellAt 3 rfl
 have hz1 := hb1.free 3
 obtain ⟨a, cp, rfl, _⟩ := byts_val ho.byts
 have HO := Lib.hid ho
 have HM := Lib.hid hM1
 have HR1 := Lib.hid hr1
 have HB1 := Lib.hid hb1
 clear ho hM1 hr1 hb1 hl HBY
 rw [hnl] at HO ⊢
 go_wp2
 go_end0
 refine ⟨rfl, .slice none 0 0, .slice a nl cp, ?_, ?_, ?_, ?_⟩
 ·rw [HK.out]
  exact ⟨OwnS.nil _ _, (HO.out.kept (S := fun k => k = fb) ((Mod.refl (fun k => k = fb) w1).setCell (p := ⟨fb, 3, none⟩) (fun _ => rfl) _) (fun g hg e => HO.out.hapart HB1.out (by decide) (by rw [hg, e]))), by simp, by show (b.length : Int) ≤ _; rw [hnl]; exact HLEN.out⟩
 ·rw [HK.out]
  exact HB1.out.set 3 _
 ·rw [HK.out]
  exact rdr_set HR1.out HB1.out rfl
 ·exact (HM.out.mono (fun _ _ h => .inl h)).setCell (fun _ => .inr rfl) _
set_option maxHeartbeats 4000000 in
set_option maxRecDepth 10000 in
theorem kread_id (k : Nat) (hk : k = 3 ∨ k = 7 ∨ k = 13) : KReads 81 k := by
 intro w rb fb b hlen hr hf
 have hne := rdr_ne hr hf (by decide)
 have HF := Lib.hid hf
 have hc3 := hf.cellAt 1 rfl
 have HK : Hid (readK k b = (⟨(k : Int), (RS.int ⟨b, 0⟩).1, [], []⟩, (RS.int ⟨b, 0⟩).2)) := by
  show _ = _
  unfold readK
  rw [if_neg (by unfold isData; rcases hk with rfl | rfl | rfl <;> decide), if_neg (by omega)]
 have HI := Lib.hid (int_any hr)
 clear hr hf hk hlen
 generalize RS.int ⟨b, 0⟩ = R at *
 obtain ⟨n, s2⟩ := R
 simp only at HI
 go_enter Tryz.func81, Tryz.ntmps81
 go_wp2_with fail
 refine (HI.out).mono ?_
 rintro e w1 ⟨rfl, hr1, hM1⟩
 have hb1 := hM1.blk HF.out hne
 have hc1 := hb1.cellAt 1 rfl
 have hz1 := hb1.free 1
 have HM := Lib.hid hM1
 have HR1 := Lib.hid hr1
 have HB1 := Lib.hid hb1
 clear hM1 hr1 hb1 HI
 go_wp2
 go_end0
 refine ⟨rfl, .slice none 0 0, .slice none 0 0, ?_, ?_, ?_, ?_⟩
 ·rw [HK.out]
  exact ⟨OwnS.nil _ _, OwnB.nil _ _, by simp, by simp⟩
 ·rw [HK.out]
  exact HB1.out.set 1 _
 ·rw [HK.out]
  exact rdr_set HR1.out HB1.out rfl
 ·exact (HM.out.mono (fun _ _ h => .inl h)).setCell (fun _ => .inr rfl) _
structure SRd (w0 w : World) (rb fb : Nat) (k : Int) (v : Value) (l : List (Nat × Nat)) (s : RS) : Prop where
 rd : Rdr w rb s
 fr : Blk w fb #[.int .i64 k, .int .u64 0, v, .slice none 0 0] 77
 own : OwnS w w0.heap.size v l
 mod : Mod (fun j => j = rb ∨ j = fb) w0 w
structure SMid (w0 w : World) (rb fb : Nat) (k : Int) (v : Value) (l : List (Nat × Nat)) : Prop where
 fr : Blk w fb #[.int .i64 k, .int .u64 0, v, .slice none 0 0] 77
 own : OwnS w w0.heap.size v l
 mod : Mod (fun j => j = rb ∨ j = fb) w0 w
structure SApp (w0 w : World) (rb fb : Nat) (k : Int) (v v2 : Value) (l : List (Nat × Nat)) (s : RS) : Prop where
 rd : Rdr w rb s
 fr : Blk w fb #[.int .i64 k, .int .u64 0, v, .slice none 0 0] 77
 own : OwnS w w0.heap.size v2 l
 mod : Mod (fun j => j = rb ∨ j = fb) w0 w
theorem OwnS.rdr_apart {w : World} {B rb : Nat} {v : Value} {l : List (Nat × Nat)} {s : RS} (h : OwnS w B v l) (hr : Rdr w rb s) : ¬ v.ownBlock = some rb := by
 obtain ⟨_, a, cap, hb, _⟩ := hr
 exact h.apart hb (by decide)
theorem SRd.mid {w0 w w' : World} {rb fb : Nat} {k : Int} {v : Value} {l : List (Nat × Nat)} {s : RS} (h : SRd w0 w rb fb k v l s) (hM : Mod (fun j => j = rb) w w') : SMid w0 w' rb fb k v l :=
 ⟨hM.blk h.fr (rdr_ne h.rd h.fr (by decide)), h.own.kept hM (fun g hg e => h.own.rdr_apart h.rd (by rw [hg, e])), h.mod.trans' hM (fun _ _ e => .inl e)⟩
theorem SMid.app {w0 w wm w' : World} {rb fb : Nat} {k : Int} {v v2 : Value} {l l2 : List (Nat × Nat)} {s : RS} (h : SMid w0 w rb fb k v l) (hr : Rdr w rb s) (hA : Mod (fun _ => False) w wm) (ho : OwnS w' w0.heap.size v2 l2) (hg : wm.grownBy w' v.ownBlock) : SApp w0 w' rb fb k v v2 l2 s := by
 have hg' : Mod (fun j => v.ownBlock = some j) wm w' := (Mod.refl _ _).grown hg (fun k hk _ => hk)
 have hM : Mod (fun j => v.ownBlock = some j) w w' := (hA.mono (fun _ _ e => e.elim)).trans hg'
 exact ⟨hM.rdr hr (h.own.rdr_apart hr) (fun b cs hb => h.own.apart hb (by decide)), hM.blk h.fr (h.own.apart h.fr (by decide)), ho, h.mod.trans' hM (fun i hi e => by have := (World.ownsRow.lt h.own i e).1; omega)⟩
theorem SApp.set {w0 w : World} {rb fb : Nat} {k : Int} {v v2 : Value} {l : List (Nat × Nat)} {s : RS} (h : SApp w0 w rb fb k v v2 l s) : SRd w0 (w.setCell ⟨fb, 2, none⟩ v2) rb fb k v2 l s :=
 ⟨rdr_set h.rd h.fr rfl, h.fr.set 2 v2, h.own.kept (S := fun k => k = fb) ((Mod.refl (fun k => k = fb) w).setCell (p := ⟨fb, 2, none⟩) (fun _ => rfl) _) (fun g hg e => h.own.apart h.fr (by decide) (by rw [hg, e])), h.mod.setCell (fun _ => .inr rfl) _⟩
theorem readSet_step {n : Nat} {l : List (Nat × Nat)} {s : RS} (h : s.l ≠ []) : readSetL (n + 1) l s = readSetL n (l ++ [(s.int.1, s.int.2.int.1)]) s.int.2.int.2 := by
 show (if s.l = [] then _ else _) = _
 rw [if_neg h]
def lenAt2 (w : World) (fb : Nat) : Nat := match w.cell? ⟨fb, 2, none⟩ with
 | some (.slice _ n _) => n
 | _ => 0
theorem SRd.lenAt {w0 w : World} {rb fb n cp : Nat} {ap : Option Addr} {k : Int} {l : List (Nat × Nat)} {s : RS} (h : SRd w0 w rb fb k (.slice ap n cp) l s) : lenAt2 w fb = n := by
 have : w.cell? ⟨fb, 2, none⟩ = some (.slice ap n cp) := h.fr.cellAt 2 rfl
 unfold lenAt2
 rw [this]
theorem readSet_len : ∀ (n : Nat) (l : List (Nat × Nat)) (s : RS), (readSetL n l s).1.length ≤ l.length + n
 | 0, l, s => by simp [readSetL]
 | n + 1, l, s => by
  unfold readSetL
  split
  ·simp
  ·have := readSet_len n (l ++ [(s.int.1, s.int.2.int.1)]) s.int.2.int.2
   simp at this ⊢
   omega
set_option maxHeartbeats 8000000 in
set_option maxRecDepth 10000 in
theorem kread_set : KReads 84 4 := by
 intro w rb fb b hlen hr hf
 obtain ⟨R, hR⟩ : ∃ x, x = readSetL 17 [] ⟨b, 0⟩ := ⟨_, rfl⟩
 have HK : Hid (readK 4 b = (⟨4, 0, R.1, []⟩, R.2)) := by
  show _ = _
  unfold readK
  rw [if_neg (by decide), if_pos rfl, hR]
 have HRL : Hid (R.1.length ≤ 17) := by show _ ≤ _; rw [hR]; exact readSet_len 17 [] _
 have HS0 : Hid (SRd w w rb fb 4 (.slice none 0 0) [] ⟨b, 0⟩) := ⟨hr, hf, OwnS.nil _ _, Mod.refl _ _⟩
 have HR0 : Hid (readSetL (17 - 0) [] ⟨b, 0⟩ = R) := hR.symm
 clear hr hf hlen hR
 generalize (⟨b, 0⟩ : RS) = s0 at *
 go_enter Tryz.func84, Tryz.ntmps84
 go_wp2_with fail
 go_loopw [4] (fun s4 wr => ∃ x : Value, s4 = x ∧ ∃ j acc s ap cp, j ≤ 17 ∧ Hid (acc.length = j) ∧ Hid (SRd w wr rb fb 4 (.slice ap j cp) acc s) ∧ Hid (readSetL (17 - j) acc s = R)) (fun _ wr => 17 - lenAt2 wr fb)
 case atStart => exact ⟨_, rfl, 0, [], s0, none, 0, by omega, rfl, HS0, HR0⟩
 case round =>
  clear HS0 HR0
  obtain ⟨x, rfl, j, acc, s, ap, cp, hj, HL, HS, HRR⟩ := hrel
  have hleft := left_any HS.out.rd
  have hrd := HS.out.rd
  have hne := rdr_ne hrd HS.out.fr (by decide)
  have hc2 := HS.out.fr.cellAt 2 rfl
  by_cases hs : s.l = []
  ·have hl0 : ((s.l.length : Nat) : Int) = 0 := by simp [hs]
   rw [hl0] at hleft
   have HFIN : Hid ((acc, s) = R) := by
    show _ = _
    rw [← HRR.out]
    cases 17 - j with
    | zero => rfl
    | succ n => show _ = (if s.l = [] then _ else _); rw [if_pos hs]
   clear hl0 hs hrd
   go_wp2_with (first | (go_at_call 79; refine (hleft).mono ?_; rintro e w' ⟨rfl, rfl⟩) | fail)
   go_end0
   refine ⟨rfl, .slice ap j cp, .slice none 0 0, ?_, ?_, ?_, ?_⟩
   ·rw [HK.out, ← HFIN.out]
    exact ⟨HS.out.own, OwnB.nil _ _, by have := HL.out; show (acc.length : Int) ≤ _; omega, by simp⟩
   ·rw [HK.out, ← HFIN.out]
    exact HS.out.fr
   ·rw [HK.out, ← HFIN.out]
    exact HS.out.rd
   ·exact HS.out.mod
  ·have hl0 : decide ((0 : Int) < ((s.l.length : Nat) : Int)) = true := by
    apply decide_eq_true
    have : 0 < s.l.length := by cases h : s.l with | nil => exact absurd h hs | cons => simp
    omega
   have hl1 : (0 : Int) < ((s.l.length : Nat) : Int) := of_decide_eq_true hl0
   generalize (s.l.length : Int) = sl at *
   have HNE := Lib.hid hs
   clear hs
   by_cases hj16 : (j : Int) ≤ 16
   ·have hM0 := (Mod.refl (fun j => j = rb) wr).drew
    have hst := HS.out
    have HJ : Hid (j ≤ 100000) := by show _ ≤ _; omega
    go_wp2_with (first | (go_at_call 79; refine (hleft).mono ?_; rintro e w' ⟨rfl, rfl⟩) | fail)
    have c0 := hM0.cellAt hc2 hne
    have hrd := Rdr.heap hrd (w' := wr.drew) rfl
    refine wp_region_any (by kernel_rfl) ?_
    change wpAny _ _ _ _ _ _ _ (World.drew _)
    refine wpAny_take (i := 0) (v := .pointer (some ⟨fb, 0, none⟩)) rfl (by kernel_rfl) (by kernel_rfl) (by kernel_rfl) (fun _ _ _ h => h) (Or.inl ⟨by rfl, ?_⟩) ?_
    ·intro X; go_simp
    refine wpAny_take (i := 1) (v := .pointer (some ⟨fb, 0, none⟩)) rfl (by kernel_rfl) (by kernel_rfl) (by kernel_rfl) (fun _ _ _ h => h) (Or.inl ⟨by rfl, ?_⟩) ?_
    ·intro X; go_simp
    refine wpAny_take (i := 2) (v := .pointer (some ⟨fb, 0, none⟩)) rfl (by kernel_rfl) (by kernel_rfl) (by kernel_rfl) (fun _ _ _ h => h) (Or.inl ⟨by rfl, ?_⟩) ?_
    ·intro X; go_simp
    refine wpAny_take (i := 3) (v := .pointer (some ⟨fb, 2, none⟩)) rfl (by kernel_rfl) (by kernel_rfl) (by kernel_rfl) (fun _ _ _ h => h) (Or.inl ⟨by rfl, ?_⟩) ?_
    ·intro X; go_simp
    refine wpAny_take (i := 5) (v := .pointer (some ⟨rb, 0, none⟩)) rfl (by kernel_rfl) (by kernel_rfl) (by kernel_rfl) (fun _ _ _ h => h) (Or.inl ⟨by rfl, ?_⟩) ?_
    ·intro X; go_simp
    refine wpAny_take (i := 7) (v := .pointer (some ⟨rb, 0, none⟩)) rfl (by kernel_rfl) (by kernel_rfl) (by kernel_rfl) (fun _ _ _ h => h) (Or.inl ⟨by rfl, ?_⟩) ?_
    ·intro X; go_simp
    refine wpAny_ready (rs := [4, 6]) (by kernel_rfl) (by simp) ?_
    refine AllReady.cons rfl (fun K hK => ?_) (AllReady.cons rfl (fun K hK => ?_) AllReady.nil)
    ·go_simp
     refine hK _ _ ?_
     clear hK K
     refine wpAny_ready (rs := [6]) (by kernel_rfl) (by simp) ?_
     refine AllReady.cons rfl (fun K hK => ?_) AllReady.nil
     go_simp
     refine (int_any hrd).mono ?_
     rintro e Y1 ⟨rfl, hr1, hk1⟩
     have c1 := hk1.cellAt c0 hne
     have m1 := hM0.trans hk1
     refine hK _ _ ?_
     clear hK K
     refine wpAny_ready (rs := [8]) (by kernel_rfl) (by simp) ?_
     refine AllReady.cons rfl (fun K hK => ?_) AllReady.nil
     go_simp
     refine (int_any hr1).mono ?_
     rintro e Y2 ⟨rfl, hr2, hk2⟩
     have c2 := hk2.cellAt c1 hne
     have m2 := m1.trans hk2
     refine hK _ _ ?_
     clear hK K
     have HR2 := Lib.hid hr2
     have HM2 := Lib.hid m2
     have HQ2 := Lib.hid (hst.mid HM2.out)
     have hnw := HL.out
     have hsz := Lib.hid (Nat.le_trans HS.out.mod.size HM2.out.size)
     generalize hia : s.int.1 = ia at *
     generalize hib : s.int.2.int.1 = ib at *
     clear hr1 hr2 hk1 hk2 m1 m2 hst hrd
     refine wpAny_take (i := 9) (v := .agg #[.int .u64 (ia : Int), .int .u64 (ib : Int)]) rfl (by kernel_rfl) (by kernel_rfl) (by kernel_rfl) (fun _ _ _ h => h) (Or.inl ⟨by rfl, ?_⟩) ?_
     ·intro X; go_simp
     refine wpAny_ready (rs := [10]) (by kernel_rfl) (by simp) ?_
     refine AllReady.cons rfl (fun K hK => ?_) AllReady.nil
     go_simp
     refine hK _ _ ?_
     clear hK K
     clear c0 c1 c2
     refine wpAny_ready (rs := [11]) (by kernel_rfl) (by simp) ?_
     refine AllReady.cons rfl (fun K hK => ?_) AllReady.nil
     refine step_append_set rfl (.tmp 19) (.tmp 25) (by rfl) (.slice ap j cp) acc w.heap.size (by rfl) (HQ2.out.own.alloc _) _ (ia, ib) (by rfl) (set_one Y2 (ia, ib)) j HL.out HJ.out (by have := hsz.out; simpa using (Nat.le_succ_of_le this)) ?_
     intro ap2 cp2 Y3 ho3 hg3
     have HQ3 := Lib.hid (HQ2.out.app HR2.out ((Mod.refl _ Y2).alloc _) ho3 hg3)
     have c3 := HQ3.out.fr.cellAt 2 rfl
     have z3 := HQ3.out.fr.free 2
     refine hK _ _ ?_
     clear hK K
     refine wpAny_take (i := 12) (v := .pointer (some ⟨fb, 0, none⟩)) rfl (by kernel_rfl) (by kernel_rfl) (by kernel_rfl) (fun _ _ _ h => h) (Or.inl ⟨by rfl, ?_⟩) ?_
     ·intro X; go_simp
     refine wpAny_take (i := 13) (v := .pointer (some ⟨fb, 2, none⟩)) rfl (by kernel_rfl) (by kernel_rfl) (by kernel_rfl) (fun _ _ _ h => h) (Or.inl ⟨by rfl, ?_⟩) ?_
     ·intro X; go_simp
     refine wpAny_ready (rs := [14]) (by kernel_rfl) (by simp) ?_
     refine AllReady.cons rfl (fun K hK => ?_) AllReady.nil
     go_simp
     refine hK _ _ ?_
     clear hK K
     refine wpAny_done (by kernel_rfl) ?_ _
     have HQ4 := Lib.hid HQ3.out.set
     go_wp2
     go_roundw
     case rel => exact ⟨_, rfl, j + 1, acc ++ [(ia, ib)], s.int.2.int.2, ap2, cp2, by omega, by show _ = _; simp [HL.out], HQ4, by show _ = _; rw [← HRR.out, show 17 - j = (17 - (j + 1)) + 1 by omega, readSet_step HNE.out, hia, hib]⟩
     case measure => rw [HQ4.out.lenAt, HS.out.lenAt]; omega
    ·go_simp
     refine (int_any hrd).mono ?_
     rintro e Y1 ⟨rfl, hr1, hk1⟩
     have c1 := hk1.cellAt c0 hne
     have m1 := hM0.trans hk1
     refine hK _ _ ?_
     clear hK K
     refine wpAny_ready (rs := [4, 8]) (by kernel_rfl) (by simp) ?_
     refine AllReady.cons rfl (fun K hK => ?_) (AllReady.cons rfl (fun K hK => ?_) AllReady.nil)
     ·go_simp
      refine hK _ _ ?_
      clear hK K
      refine wpAny_ready (rs := [8]) (by kernel_rfl) (by simp) ?_
      refine AllReady.cons rfl (fun K hK => ?_) AllReady.nil
      go_simp
      refine (int_any hr1).mono ?_
      rintro e Y2 ⟨rfl, hr2, hk2⟩
      have c2 := hk2.cellAt c1 hne
      have m2 := m1.trans hk2
      refine hK _ _ ?_
      clear hK K
      have HR2 := Lib.hid hr2
      have HM2 := Lib.hid m2
      have HQ2 := Lib.hid (hst.mid HM2.out)
      have hnw := HL.out
      have hsz := Lib.hid (Nat.le_trans HS.out.mod.size HM2.out.size)
      generalize hia : s.int.1 = ia at *
      generalize hib : s.int.2.int.1 = ib at *
      clear hr1 hr2 hk1 hk2 m1 m2 hst hrd
      refine wpAny_take (i := 9) (v := .agg #[.int .u64 (ia : Int), .int .u64 (ib : Int)]) rfl (by kernel_rfl) (by kernel_rfl) (by kernel_rfl) (fun _ _ _ h => h) (Or.inl ⟨by rfl, ?_⟩) ?_
      ·intro X; go_simp
      refine wpAny_ready (rs := [10]) (by kernel_rfl) (by simp) ?_
      refine AllReady.cons rfl (fun K hK => ?_) AllReady.nil
      go_simp
      refine hK _ _ ?_
      clear hK K
      clear c0 c1 c2
      refine wpAny_ready (rs := [11]) (by kernel_rfl) (by simp) ?_
      refine AllReady.cons rfl (fun K hK => ?_) AllReady.nil
      refine step_append_set rfl (.tmp 19) (.tmp 25) (by rfl) (.slice ap j cp) acc w.heap.size (by rfl) (HQ2.out.own.alloc _) _ (ia, ib) (by rfl) (set_one Y2 (ia, ib)) j HL.out HJ.out (by have := hsz.out; simpa using (Nat.le_succ_of_le this)) ?_
      intro ap2 cp2 Y3 ho3 hg3
      have HQ3 := Lib.hid (HQ2.out.app HR2.out ((Mod.refl _ Y2).alloc _) ho3 hg3)
      have c3 := HQ3.out.fr.cellAt 2 rfl
      have z3 := HQ3.out.fr.free 2
      refine hK _ _ ?_
      clear hK K
      refine wpAny_take (i := 12) (v := .pointer (some ⟨fb, 0, none⟩)) rfl (by kernel_rfl) (by kernel_rfl) (by kernel_rfl) (fun _ _ _ h => h) (Or.inl ⟨by rfl, ?_⟩) ?_
      ·intro X; go_simp
      refine wpAny_take (i := 13) (v := .pointer (some ⟨fb, 2, none⟩)) rfl (by kernel_rfl) (by kernel_rfl) (by kernel_rfl) (fun _ _ _ h => h) (Or.inl ⟨by rfl, ?_⟩) ?_
      ·intro X; go_simp
      refine wpAny_ready (rs := [14]) (by kernel_rfl) (by simp) ?_
      refine AllReady.cons rfl (fun K hK => ?_) AllReady.nil
      go_simp
      refine hK _ _ ?_
      clear hK K
      refine wpAny_done (by kernel_rfl) ?_ _
      have HQ4 := Lib.hid HQ3.out.set
      go_wp2
      go_roundw
      case rel => exact ⟨_, rfl, j + 1, acc ++ [(ia, ib)], s.int.2.int.2, ap2, cp2, by omega, by show _ = _; simp [HL.out], HQ4, by show _ = _; rw [← HRR.out, show 17 - j = (17 - (j + 1)) + 1 by omega, readSet_step HNE.out, hia, hib]⟩
      case measure => rw [HQ4.out.lenAt, HS.out.lenAt]; omega
     ·go_simp
      refine (int_any hr1).mono ?_
      rintro e Y2 ⟨rfl, hr2, hk2⟩
      have c2 := hk2.cellAt c1 hne
      have m2 := m1.trans hk2
      refine hK _ _ ?_
      clear hK K
      have HR2 := Lib.hid hr2
      have HM2 := Lib.hid m2
      have HQ2 := Lib.hid (hst.mid HM2.out)
      have hnw := HL.out
      have hsz := Lib.hid (Nat.le_trans HS.out.mod.size HM2.out.size)
      generalize hia : s.int.1 = ia at *
      generalize hib : s.int.2.int.1 = ib at *
      clear hr1 hr2 hk1 hk2 m1 m2 hst hrd
      refine wpAny_take (i := 9) (v := .agg #[.int .u64 (ia : Int), .int .u64 (ib : Int)]) rfl (by kernel_rfl) (by kernel_rfl) (by kernel_rfl) (fun _ _ _ h => h) (Or.inl ⟨by rfl, ?_⟩) ?_
      ·intro X; go_simp
      have c2a := ((Mod.refl (fun _ => False) Y2).alloc (.cells #[.int .u64 (ia : Int), .int .u64 (ib : Int)] 74)).cellAt c2 (fun h => h)
      refine wpAny_ready (rs := [4, 10]) (by kernel_rfl) (by simp) ?_
      refine AllReady.cons rfl (fun K hK => ?_) (AllReady.cons rfl (fun K hK => ?_) AllReady.nil)
      ·go_simp
       refine hK _ _ ?_
       clear hK K
       clear c2a
       refine wpAny_ready (rs := [10]) (by kernel_rfl) (by simp) ?_
       refine AllReady.cons rfl (fun K hK => ?_) AllReady.nil
       go_simp
       refine hK _ _ ?_
       clear hK K
       clear c0 c1 c2
       refine wpAny_ready (rs := [11]) (by kernel_rfl) (by simp) ?_
       refine AllReady.cons rfl (fun K hK => ?_) AllReady.nil
       refine step_append_set rfl (.tmp 19) (.tmp 25) (by rfl) (.slice ap j cp) acc w.heap.size (by rfl) (HQ2.out.own.alloc _) _ (ia, ib) (by rfl) (set_one Y2 (ia, ib)) j HL.out HJ.out (by have := hsz.out; simpa using (Nat.le_succ_of_le this)) ?_
       intro ap2 cp2 Y3 ho3 hg3
       have HQ3 := Lib.hid (HQ2.out.app HR2.out ((Mod.refl _ Y2).alloc _) ho3 hg3)
       have c3 := HQ3.out.fr.cellAt 2 rfl
       have z3 := HQ3.out.fr.free 2
       refine hK _ _ ?_
       clear hK K
       refine wpAny_take (i := 12) (v := .pointer (some ⟨fb, 0, none⟩)) rfl (by kernel_rfl) (by kernel_rfl) (by kernel_rfl) (fun _ _ _ h => h) (Or.inl ⟨by rfl, ?_⟩) ?_
       ·intro X; go_simp
       refine wpAny_take (i := 13) (v := .pointer (some ⟨fb, 2, none⟩)) rfl (by kernel_rfl) (by kernel_rfl) (by kernel_rfl) (fun _ _ _ h => h) (Or.inl ⟨by rfl, ?_⟩) ?_
       ·intro X; go_simp
       refine wpAny_ready (rs := [14]) (by kernel_rfl) (by simp) ?_
       refine AllReady.cons rfl (fun K hK => ?_) AllReady.nil
       go_simp
       refine hK _ _ ?_
       clear hK K
       refine wpAny_done (by kernel_rfl) ?_ _
       have HQ4 := Lib.hid HQ3.out.set
       go_wp2
       go_roundw
       case rel => exact ⟨_, rfl, j + 1, acc ++ [(ia, ib)], s.int.2.int.2, ap2, cp2, by omega, by show _ = _; simp [HL.out], HQ4, by show _ = _; rw [← HRR.out, show 17 - j = (17 - (j + 1)) + 1 by omega, readSet_step HNE.out, hia, hib]⟩
       case measure => rw [HQ4.out.lenAt, HS.out.lenAt]; omega
      ·go_simp
       refine hK _ _ ?_
       clear hK K
       refine wpAny_ready (rs := [4]) (by kernel_rfl) (by simp) ?_
       refine AllReady.cons rfl (fun K hK => ?_) AllReady.nil
       go_simp
       refine hK _ _ ?_
       clear hK K
       clear c2a
       clear c0 c1 c2
       refine wpAny_ready (rs := [11]) (by kernel_rfl) (by simp) ?_
       refine AllReady.cons rfl (fun K hK => ?_) AllReady.nil
       refine step_append_set rfl (.tmp 19) (.tmp 25) (by rfl) (.slice ap j cp) acc w.heap.size (by rfl) (HQ2.out.own.alloc _) _ (ia, ib) (by rfl) (set_one Y2 (ia, ib)) j HL.out HJ.out (by have := hsz.out; simpa using (Nat.le_succ_of_le this)) ?_
       intro ap2 cp2 Y3 ho3 hg3
       have HQ3 := Lib.hid (HQ2.out.app HR2.out ((Mod.refl _ Y2).alloc _) ho3 hg3)
       have c3 := HQ3.out.fr.cellAt 2 rfl
       have z3 := HQ3.out.fr.free 2
       refine hK _ _ ?_
       clear hK K
       refine wpAny_take (i := 12) (v := .pointer (some ⟨fb, 0, none⟩)) rfl (by kernel_rfl) (by kernel_rfl) (by kernel_rfl) (fun _ _ _ h => h) (Or.inl ⟨by rfl, ?_⟩) ?_
       ·intro X; go_simp
       refine wpAny_take (i := 13) (v := .pointer (some ⟨fb, 2, none⟩)) rfl (by kernel_rfl) (by kernel_rfl) (by kernel_rfl) (fun _ _ _ h => h) (Or.inl ⟨by rfl, ?_⟩) ?_
       ·intro X; go_simp
       refine wpAny_ready (rs := [14]) (by kernel_rfl) (by simp) ?_
       refine AllReady.cons rfl (fun K hK => ?_) AllReady.nil
       go_simp
       refine hK _ _ ?_
       clear hK K
       refine wpAny_done (by kernel_rfl) ?_ _
       have HQ4 := Lib.hid HQ3.out.set
       go_wp2
       go_roundw
       case rel => exact ⟨_, rfl, j + 1, acc ++ [(ia, ib)], s.int.2.int.2, ap2, cp2, by omega, by show _ = _; simp [HL.out], HQ4, by show _ = _; rw [← HRR.out, show 17 - j = (17 - (j + 1)) + 1 by omega, readSet_step HNE.out, hia, hib]⟩
       case measure => rw [HQ4.out.lenAt, HS.out.lenAt]; omega
   ·have HFIN : Hid ((acc, s) = R) := by
     show _ = _
     rw [← HRR.out]
     rw [show 17 - j = 0 by omega]
     rfl
    clear hrd
    go_wp2_with (first | (go_at_call 79; refine (hleft).mono ?_; rintro e w' ⟨rfl, rfl⟩) | fail)
    go_end0
    refine ⟨rfl, .slice ap j cp, .slice none 0 0, ?_, ?_, ?_, ?_⟩
    ·rw [HK.out, ← HFIN.out]
     exact ⟨HS.out.own, OwnB.nil _ _, by have := HL.out; show (acc.length : Int) ≤ _; omega, by simp⟩
    ·rw [HK.out, ← HFIN.out]
     exact HS.out.fr
    ·rw [HK.out, ← HFIN.out]
     exact HS.out.rd
    ·exact HS.out.mod
end Go.Proofs.YtahgidkpjmecdaaGreatDoor
set_option maxRecDepth 100000
namespace Go.Proofs.YtahgidkpjmecdaaGreatDoor
open Go.RowKit Go.Maps
theorem VMap.hlook2 {t e : TypeId} {w : World} {mb n : Nat} {z : Int} {f : Int → Option Value} {zv : Value} (h : VMap w mb n f) (hz : okKey z) (ht : Tryz.prog.underlying t = some (.map 3 e)) (h0 : (zeroValue e).run Tryz.prog w = .ok zv w) :
  (Instr.lookup t (.map (some mb)) (.int .i64 z) true).run Tryz.prog w = .ok (.tuple #[(f z).getD zv, .bool (f z).isSome]) w := by
 obtain ⟨D, h1, h2, h3⟩ := h
 obtain ⟨v, ps, hr, hv⟩ := h1.look_ok lawInt ht h0 (zd := .held zv) (zp := []) rfl (okKey_key hz)
 rw [(h3 z hz).1 zv] at hv
 simp only [anyElem, Option.some.injEq, Prod.mk.injEq, DataW.held.injEq] at hv
 rw [hr, hv.1, (h3 z hz).2]
theorem bytes_len (s : RS) (n : Nat) : (s.bytes n).2.l.length ≤ s.l.length ∧ (s.bytes n).1.length ≤ s.l.length := by
 unfold RS.bytes
 split
 ·simp
 ·split
  ·simp
  ·simp; omega
theorem int_len (s : RS) : s.int.2.l.length ≤ s.l.length := by
 unfold RS.int
 split
 ·unfold RS.fail; split <;> simp
 ·split
  ·unfold RS.fail; split <;> simp
  ·exact (bytes_len s _).1
theorem bytes_bad (s : RS) (n : Nat) (h : s.e ≠ 0) : (s.bytes n).2.e ≠ 0 := by
 unfold RS.bytes; rw [if_pos h]; exact h
theorem int_bad (s : RS) (h : s.e ≠ 0) : s.int.2.e ≠ 0 := by
 unfold RS.int
 split
 ·unfold RS.fail; rw [if_neg (by simp [h])]; exact h
 ·split
  ·unfold RS.fail; rw [if_neg (by simp [h])]; exact h
  ·exact bytes_bad s _ h
theorem results_cell3 {P : Program} {w : World} {fn : Func} {t u x : Tmp} {ty : TypeId} {b : Nat} {v : Value} (h : fn.results = #[.cell t ty, .tmp u, .tmp x]) (tmps : Array Value) (ha : tmps.getD t undef = .pointer (some ⟨b, 0, none⟩)) (hl : (loadVar ty ⟨b, 0, none⟩).run P w = .ok v w) :
  (results fn tmps).run P w = .ok (.tuple #[v, tmps.getD u undef, tmps.getD x undef]) w := by
 have ha' : (tmps[t]?).getD undef = .pointer (some ⟨b, 0, none⟩) := by simpa using ha
 simp only [results, h]
 simp [ha', asAddr, hl]
def hNextR (w : World) (R : HF × Nat × Int) : Ending → World → Prop := fun e w' => ∃ vs vd, e = .returned (.tuple #[hfA R.1 vs vd, .int .i64 (R.2.1 : Int), .int .i64 R.2.2]) ∧ HFV w' R.1 vs vd ∧ Mod (fun _ => False) w w'
def zC : Array Value := #[.int .i64 0, .int .u64 0, .slice none 0 0, .slice none 0 0]
theorem zC_one : ∀ v ∈ zC.toList, v.oneCell' = true := by
 intro v hv
 simp [zC] at hv
 rcases hv with rfl | rfl | rfl | rfl <;> rfl
structure NxS (w0 w : World) (rb : Nat) (s : RS) : Prop where
 res : Blk w w0.heap.size zC 77
 f : Blk w (w0.heap.size + 1) zC 77
 rd : Rdr w rb s
 lo : w0.heap.size + 2 ≤ rb
 mod : Mod (fun _ => False) w0 w
theorem NxS.toR {w0 w w' : World} {rb : Nat} {s s' : RS} (h : NxS w0 w rb s) (hM : Mod (fun k => k = rb) w w') (hr : Rdr w' rb s') : NxS w0 w' rb s' :=
 have := h.lo
 ⟨hM.blk h.res (by omega), hM.blk h.f (by omega), hr, h.lo, h.mod.trans' hM (fun i hi e => by omega)⟩
theorem NxS.toF {w0 w w' : World} {rb : Nat} {s : RS} (h : NxS w0 w rb s) (hM : Mod (fun _ => False) w w') : NxS w0 w' rb s :=
 ⟨hM.blk h.res (fun h => h), hM.blk h.f (fun h => h), h.rd.kept hM (fun _ _ h => h), h.lo, h.mod.trans hM⟩
theorem size26z : (Tryz.prog.info? 77).map (·.size) = some zC.size := by show _ = some 4; kernel_rfl
theorem next_run {wz : World} {fn : Func} {tmps : Array Value} {n : Nat} {e : Int} {b : Nat} {C : Array Value} (hf : fn.results = #[.cell 2 77, .tmp 3, .tmp 4]) (ha : tmps.getD 2 undef = .pointer (some ⟨b, 0, none⟩)) (h3 : tmps.getD 3 undef = .int .i64 (n : Int)) (h4 : tmps.getD 4 undef = .int .i64 e)
  (hB : Blk wz b C 77) (hs : (Tryz.prog.info? 77).map (·.size) = some C.size) : (results fn tmps).run Tryz.prog wz = .ok (.tuple #[.agg C, .int .i64 (n : Int), .int .i64 e]) wz := by
 rw [results_cell3 hf tmps ha (blk_loadVar (P := Tryz.prog) hB Tryz.underlying77 rfl hs), h3, h4]
theorem next_zero {w wz : World} {n : Nat} {e : Int} (hM : Mod (fun _ => False) w wz) : hNextR w (HF.zero, n, e) (.returned (.tuple #[.agg zC, .int .i64 (n : Int), .int .i64 e])) wz :=
 ⟨_, _, rfl, ⟨Sl.nil _ _, Sl.nil _ _, by simp [HF.zero], by simp [HF.zero]⟩, hM⟩
theorem nextL_bad {b : List UInt8} (h : (RS.int ⟨b, 0⟩).2.e ≠ 0) : nextL b = (HF.zero, 0, 2) := by
 unfold nextL
 rw [if_neg (fun h' => h h'.1), if_pos (bytes_bad _ _ (int_bad _ h))]
theorem nextL_old {b : List UInt8} (h : (RS.int ⟨b, 0⟩).2.e = 0) (ho : isOld (RS.int ⟨b, 0⟩).1 = true) : nextL b = (HF.zero, 0, 3) := by
 unfold nextL
 rw [if_pos ⟨h, ho⟩]
theorem nextL_short {b : List UInt8} (ho : isOld (RS.int ⟨b, 0⟩).1 = false) (h : ((RS.int ⟨b, 0⟩).2.int.2.bytes (RS.int ⟨b, 0⟩).2.int.1).2.e ≠ 0) : nextL b = (HF.zero, 0, 2) := by
 unfold nextL
 rw [if_neg (fun h' => by rw [ho] at h'; simp at h'), if_pos h]
theorem nextL_none {b : List UInt8} (ho : isOld (RS.int ⟨b, 0⟩).1 = false) (h : ((RS.int ⟨b, 0⟩).2.int.2.bytes (RS.int ⟨b, 0⟩).2.int.1).2.e = 0) (hk : isKind (RS.int ⟨b, 0⟩).1 = false) : nextL b = (HF.zero, b.length - ((RS.int ⟨b, 0⟩).2.int.2.bytes (RS.int ⟨b, 0⟩).2.int.1).2.l.length, 6) := by
 unfold nextL
 rw [if_neg (fun h' => by rw [ho] at h'; simp at h'), if_neg (by simp [h]), if_pos hk]
theorem nextL_kind {b : List UInt8} (ho : isOld (RS.int ⟨b, 0⟩).1 = false) (h : ((RS.int ⟨b, 0⟩).2.int.2.bytes (RS.int ⟨b, 0⟩).2.int.1).2.e = 0) (hk : isKind (RS.int ⟨b, 0⟩).1 = true) :
  nextL b = nextE (RS.int ⟨b, 0⟩).1 ((RS.int ⟨b, 0⟩).2.int.2.bytes (RS.int ⟨b, 0⟩).2.int.1).1 (b.length - ((RS.int ⟨b, 0⟩).2.int.2.bytes (RS.int ⟨b, 0⟩).2.int.1).2.l.length) := by
 unfold nextL
 rw [if_neg (fun h' => by rw [ho] at h'; simp at h'), if_neg (by simp [h]), if_neg (by simp [hk])]
end Go.Proofs.YtahgidkpjmecdaaGreatDoor
set_option maxRecDepth 100000
namespace Go.Proofs.YtahgidkpjmecdaaGreatDoor
open Go.RowKit
set_option maxHeartbeats 4000000 in
set_option maxRecDepth 10000 in
theorem next_bad {w : World} {v : Value} {b : List UInt8} (h : Byts w v b) (hl : (b.length : Int) ≤ 100000) (h1 : ¬ (RS.int ⟨b, 0⟩).2.e = 0) : Calls Tryz.prog 117 #[v] w (hNextR w (nextL b)) := by
 obtain ⟨R, hR⟩ : ∃ x, x = nextL b := ⟨_, rfl⟩
 rw [← hR]
 have HRR : Hid (R = (HF.zero, 0, 2)) := hR.trans (nextL_bad h1)
 clear hR
 have H := Lib.hid h
 have HL := Lib.hid hl
 obtain ⟨a, cap, rfl, _⟩ := byts_val h
 obtain ⟨bl, hbl⟩ : ∃ x, x = b.length := ⟨_, rfl⟩
 rw [← hbl] at HL ⊢
 have HBL := Lib.hid hbl
 clear h hl hbl
 have HB3 := Lib.hid (bytes_bad _ (RS.int ⟨b, 0⟩).2.int.1 (int_bad _ h1))
 go_enter Tryz.func117, Tryz.ntmps117
 go_wp2_with fail
 have hM0 : Mod (fun _ => False) w ((w.alloc (.cells zC 77)).alloc (.cells zC 77)) := ((Mod.refl _ w).alloc _).alloc _
 rw [HBL.out]
 refine (read_any (byts_kept H.out hM0) (by have := HL.out; have := HBL.out; omega)).mono ?_
 rintro e w1 ⟨rb, rfl, hrb, hr, hM1⟩
 rw [← HBL.out]
 have HS : Hid (NxS w w1 rb ⟨b, 0⟩) := ⟨hM1.blk ((Blk.new w zC _).alloc _) (fun h => h), hM1.blk (by have := Blk.new (w.alloc (.cells zC 77)) zC 77; rwa [show (w.alloc (.cells zC 77)).heap.size = w.heap.size + 1 by simp] at this) (fun h => h), hr, by simpa using hrb, hM0.trans hM1⟩
 clear hM0 hM1 hr hrb
 go_wp2_with fail
 refine (int_any HS.out.rd).mono ?_
 rintro e w2 ⟨rfl, hr, hM⟩
 have HS2 := Lib.hid (HS.out.toR hM hr)
 clear hr hM HS
 have HS := HS2
 clear HS2
 generalize RS.int ⟨b, 0⟩ = R1 at *
 obtain ⟨t, s1⟩ := R1
 simp only at *
 have ht : (s1.e == 0) = false := by simpa using h1
 clear h1
 go_wp2_with (first
  | (go_at_call 122; refine (bad_any HS.out.rd).mono ?_; rintro e w' ⟨rfl, rfl⟩)
  | fail)
 refine (int_any HS.out.rd).mono ?_
 rintro e w3 ⟨rfl, hr, hM⟩
 have HS2 := Lib.hid (HS.out.toR hM hr)
 clear hr hM HS
 have HS := HS2
 clear HS2
 go_wp2_with fail
 refine (bytes_any s1.int.1 HS.out.rd).mono ?_
 rintro e w4 ⟨vb, rfl, hob, hr, hM⟩
 have HS2 := Lib.hid (HS.out.toR hM hr)
 clear hr hM HS
 have HS := HS2
 clear HS2
 obtain ⟨ba, bc, rfl, _⟩ := byts_val hob.byts
 have HOB := Lib.hid hob
 clear hob
 generalize s1.int = R2 at *
 generalize R2.2.bytes R2.1 = R3 at *
 have ht2 : (R3.2.e != 0) = true := by simpa using HB3.out
 generalize R3.1.length = nb at *
 go_wp2_with (first
  | (go_at_call 122; refine (bad_any HS.out.rd).mono ?_; rintro e w' ⟨rfl, rfl⟩)
  | ((with_reducible refine wpList_load_blk ?_ 77 (.tmp 5) ?_ (w.heap.size + 1) ?_ zC 77 _ HS.out.f Tryz.underlying77 ?_ size26z ?_); (iterate 4 exact rfl))
  | ((with_reducible refine wpList_store_blk ?_ 77 (.tmp 2) (.tmp 44) ?_ w.heap.size ?_ zC zC ?_ 77 HS.out.res size26z ?_ zC_one ?_); (iterate 5 exact rfl); intro wz hBz hMz)
  | fail)
 refine bodyPost_ret (v := .tuple #[.agg zC, .int .i64 ((0 : Nat) : Int), .int .i64 2]) ?_ rfl ?_
 ·exact next_run Tryz.results117 rfl rfl rfl hBz size26z
 ·rw [HRR.out]
  exact next_zero (HS.out.mod.trans' hMz (fun i hi e => by omega))
set_option maxHeartbeats 4000000 in
set_option maxRecDepth 10000 in
theorem next_old {w : World} {v : Value} {b : List UInt8} (h : Byts w v b) (hl : (b.length : Int) ≤ 100000) (h1 : (RS.int ⟨b, 0⟩).2.e = 0) (ho : isOld (RS.int ⟨b, 0⟩).1 = true) : Calls Tryz.prog 117 #[v] w (hNextR w (nextL b)) := by
 obtain ⟨R, hR⟩ : ∃ x, x = nextL b := ⟨_, rfl⟩
 rw [← hR]
 have HRR : Hid (R = (HF.zero, 0, 3)) := hR.trans (nextL_old h1 ho)
 clear hR
 have H := Lib.hid h
 have HL := Lib.hid hl
 obtain ⟨a, cap, rfl, _⟩ := byts_val h
 obtain ⟨bl, hbl⟩ : ∃ x, x = b.length := ⟨_, rfl⟩
 rw [← hbl] at HL ⊢
 have HBL := Lib.hid hbl
 clear h hl hbl
 go_enter Tryz.func117, Tryz.ntmps117
 go_wp2_with fail
 have hM0 : Mod (fun _ => False) w ((w.alloc (.cells zC 77)).alloc (.cells zC 77)) := ((Mod.refl _ w).alloc _).alloc _
 rw [HBL.out]
 refine (read_any (byts_kept H.out hM0) (by have := HL.out; have := HBL.out; omega)).mono ?_
 rintro e w1 ⟨rb, rfl, hrb, hr, hM1⟩
 rw [← HBL.out]
 have HS : Hid (NxS w w1 rb ⟨b, 0⟩) := ⟨hM1.blk ((Blk.new w zC _).alloc _) (fun h => h), hM1.blk (by have := Blk.new (w.alloc (.cells zC 77)) zC 77; rwa [show (w.alloc (.cells zC 77)).heap.size = w.heap.size + 1 by simp] at this) (fun h => h), hr, by simpa using hrb, hM0.trans hM1⟩
 clear hM0 hM1 hr hrb
 go_wp2_with fail
 refine (int_any HS.out.rd).mono ?_
 rintro e w2 ⟨rfl, hr, hM⟩
 have HS2 := Lib.hid (HS.out.toR hM hr)
 clear hr hM HS
 have HS := HS2
 clear HS2
 generalize RS.int ⟨b, 0⟩ = R1 at *
 obtain ⟨t, s1⟩ := R1
 simp only at *
 have ht : (s1.e == 0) = true := by simpa using h1
 have hz : (t : Int) = 2 ∨ (t : Int) = 6 ∨ (t : Int) = 8 ∨ (t : Int) = 9 := by
  unfold isOld at ho
  simp only [Bool.or_eq_true, decide_eq_true_eq] at ho
  omega
 clear h1 ho
 generalize (t : Int) = z at *
 rcases hz with rfl | rfl | rfl | rfl
 all_goals
  go_wp2_with (first
   | (go_at_call 122; refine (bad_any HS.out.rd).mono ?_; rintro e w' ⟨rfl, rfl⟩)
   | ((with_reducible refine wpList_load_blk ?_ 77 (.tmp 5) ?_ (w.heap.size + 1) ?_ zC 77 _ HS.out.f Tryz.underlying77 ?_ size26z ?_); (iterate 4 exact rfl))
   | ((with_reducible refine wpList_store_blk ?_ 77 (.tmp 2) (.tmp 36) ?_ w.heap.size ?_ zC zC ?_ 77 HS.out.res size26z ?_ zC_one ?_); (iterate 5 exact rfl); intro wz hBz hMz)
   | fail)
  refine bodyPost_ret (v := .tuple #[.agg zC, .int .i64 ((0 : Nat) : Int), .int .i64 3]) ?_ rfl ?_
  ·exact next_run Tryz.results117 rfl rfl rfl hBz size26z
  ·rw [HRR.out]
   exact next_zero (HS.out.mod.trans' hMz (fun i hi e => by omega))
set_option maxHeartbeats 4000000 in
set_option maxRecDepth 10000 in
theorem next_short {w : World} {v : Value} {b : List UInt8} (h : Byts w v b) (hl : (b.length : Int) ≤ 100000) (h1 : (RS.int ⟨b, 0⟩).2.e = 0) (ho : isOld (RS.int ⟨b, 0⟩).1 = false) (h3 : ((RS.int ⟨b, 0⟩).2.int.2.bytes (RS.int ⟨b, 0⟩).2.int.1).2.e ≠ 0) : Calls Tryz.prog 117 #[v] w (hNextR w (nextL b)) := by
 obtain ⟨R, hR⟩ : ∃ x, x = nextL b := ⟨_, rfl⟩
 rw [← hR]
 have HRR : Hid (R = (HF.zero, 0, 2)) := hR.trans (nextL_short ho h3)
 clear hR
 have H := Lib.hid h
 have HL := Lib.hid hl
 obtain ⟨a, cap, rfl, _⟩ := byts_val h
 obtain ⟨bl, hbl⟩ : ∃ x, x = b.length := ⟨_, rfl⟩
 rw [← hbl] at HL ⊢
 have HBL := Lib.hid hbl
 clear h hl hbl
 have HB3 := Lib.hid h3
 clear h3
 go_enter Tryz.func117, Tryz.ntmps117
 go_wp2_with fail
 have hM0 : Mod (fun _ => False) w ((w.alloc (.cells zC 77)).alloc (.cells zC 77)) := ((Mod.refl _ w).alloc _).alloc _
 rw [HBL.out]
 refine (read_any (byts_kept H.out hM0) (by have := HL.out; have := HBL.out; omega)).mono ?_
 rintro e w1 ⟨rb, rfl, hrb, hr, hM1⟩
 rw [← HBL.out]
 have HS : Hid (NxS w w1 rb ⟨b, 0⟩) := ⟨hM1.blk ((Blk.new w zC _).alloc _) (fun h => h), hM1.blk (by have := Blk.new (w.alloc (.cells zC 77)) zC 77; rwa [show (w.alloc (.cells zC 77)).heap.size = w.heap.size + 1 by simp] at this) (fun h => h), hr, by simpa using hrb, hM0.trans hM1⟩
 clear hM0 hM1 hr hrb
 go_wp2_with fail
 refine (int_any HS.out.rd).mono ?_
 rintro e w2 ⟨rfl, hr, hM⟩
 have HS2 := Lib.hid (HS.out.toR hM hr)
 clear hr hM HS
 have HS := HS2
 clear HS2
 generalize RS.int ⟨b, 0⟩ = R1 at *
 obtain ⟨t, s1⟩ := R1
 simp only at *
 have ht : (s1.e == 0) = true := by simpa using h1
 have hz : ¬ (t : Int) = 2 ∧ ¬ (t : Int) = 6 ∧ ¬ (t : Int) = 8 ∧ ¬ (t : Int) = 9 := by
  unfold isOld at ho
  simp only [Bool.or_eq_false_iff, decide_eq_false_iff_not] at ho
  omega
 have t2 : ((t : Int) == 2) = false := by simpa using hz.1
 have t6 : ((t : Int) == 6) = false := by simpa using hz.2.1
 have t8 : ((t : Int) == 8) = false := by simpa using hz.2.2.1
 have t9 : ((t : Int) == 9) = false := by simpa using hz.2.2.2
 clear h1 ho hz
 generalize (t : Int) = z at *
 go_wp2_with (first
  | (go_at_call 122; refine (bad_any HS.out.rd).mono ?_; rintro e w' ⟨rfl, rfl⟩)
  | fail)
 refine (int_any HS.out.rd).mono ?_
 rintro e w3 ⟨rfl, hr, hM⟩
 have HS2 := Lib.hid (HS.out.toR hM hr)
 clear hr hM HS
 have HS := HS2
 clear HS2
 go_wp2_with fail
 refine (bytes_any s1.int.1 HS.out.rd).mono ?_
 rintro e w4 ⟨vb, rfl, hob, hr, hM⟩
 have HS2 := Lib.hid (HS.out.toR hM hr)
 clear hr hM HS
 have HS := HS2
 clear HS2
 obtain ⟨ba, bc, rfl, _⟩ := byts_val hob.byts
 have HOB := Lib.hid hob
 clear hob
 generalize s1.int = R2 at *
 generalize R2.2.bytes R2.1 = R3 at *
 have ht3 : (R3.2.e != 0) = true := by simpa using HB3.out
 generalize R3.1.length = nb at *
 go_wp2_with (first
  | (go_at_call 122; refine (bad_any HS.out.rd).mono ?_; rintro e w' ⟨rfl, rfl⟩)
  | ((with_reducible refine wpList_load_blk ?_ 77 (.tmp 5) ?_ (w.heap.size + 1) ?_ zC 77 _ HS.out.f Tryz.underlying77 ?_ size26z ?_); (iterate 4 exact rfl))
  | ((with_reducible refine wpList_store_blk ?_ 77 (.tmp 2) (.tmp 44) ?_ w.heap.size ?_ zC zC ?_ 77 HS.out.res size26z ?_ zC_one ?_); (iterate 5 exact rfl); intro wz hBz hMz)
  | fail)
 refine bodyPost_ret (v := .tuple #[.agg zC, .int .i64 ((0 : Nat) : Int), .int .i64 2]) ?_ rfl ?_
 ·exact next_run Tryz.results117 rfl rfl rfl hBz size26z
 ·rw [HRR.out]
  exact next_zero (HS.out.mod.trans' hMz (fun i hi e => by omega))
set_option maxHeartbeats 4000000 in
set_option maxRecDepth 10000 in
theorem next_none {w : World} {v : Value} {b : List UInt8} (h : Byts w v b) (hl : (b.length : Int) ≤ 100000) (h1 : (RS.int ⟨b, 0⟩).2.e = 0) (ho : isOld (RS.int ⟨b, 0⟩).1 = false) (h3 : ((RS.int ⟨b, 0⟩).2.int.2.bytes (RS.int ⟨b, 0⟩).2.int.1).2.e = 0) (hk : isKind (RS.int ⟨b, 0⟩).1 = false) : Calls Tryz.prog 117 #[v] w (hNextR w (nextL b)) := by
 obtain ⟨R, hR⟩ : ∃ x, x = nextL b := ⟨_, rfl⟩
 rw [← hR]
 have HRR : Hid (R = (HF.zero, b.length - ((RS.int ⟨b, 0⟩).2.int.2.bytes (RS.int ⟨b, 0⟩).2.int.1).2.l.length, 6)) := hR.trans (nextL_none ho h3 hk)
 clear hR
 have H := Lib.hid h
 have HL := Lib.hid hl
 obtain ⟨a, cap, rfl, _⟩ := byts_val h
 obtain ⟨bl, hbl⟩ : ∃ x, x = b.length := ⟨_, rfl⟩
 rw [← hbl] at HL ⊢
 have HBL := Lib.hid hbl
 clear h hl hbl
 have HB3 := Lib.hid h3
 have HLL : Hid (((RS.int ⟨b, 0⟩).2.int.2.bytes (RS.int ⟨b, 0⟩).2.int.1).2.l.length ≤ b.length) := by
  show _ ≤ _
  have i1 := int_len ⟨b, 0⟩
  have i2 := int_len (RS.int ⟨b, 0⟩).2
  have i3 := (bytes_len (RS.int ⟨b, 0⟩).2.int.2 (RS.int ⟨b, 0⟩).2.int.1).1
  simp only at i1
  omega
 clear h3
 go_enter Tryz.func117, Tryz.ntmps117
 go_wp2_with fail
 have hM0 : Mod (fun _ => False) w ((w.alloc (.cells zC 77)).alloc (.cells zC 77)) := ((Mod.refl _ w).alloc _).alloc _
 rw [HBL.out]
 refine (read_any (byts_kept H.out hM0) (by have := HL.out; have := HBL.out; omega)).mono ?_
 rintro e w1 ⟨rb, rfl, hrb, hr, hM1⟩
 rw [← HBL.out]
 have HS : Hid (NxS w w1 rb ⟨b, 0⟩) := ⟨hM1.blk ((Blk.new w zC _).alloc _) (fun h => h), hM1.blk (by have := Blk.new (w.alloc (.cells zC 77)) zC 77; rwa [show (w.alloc (.cells zC 77)).heap.size = w.heap.size + 1 by simp] at this) (fun h => h), hr, by simpa using hrb, hM0.trans hM1⟩
 clear hM0 hM1 hr hrb
 go_wp2_with fail
 refine (int_any HS.out.rd).mono ?_
 rintro e w2 ⟨rfl, hr, hM⟩
 have HS2 := Lib.hid (HS.out.toR hM hr)
 clear hr hM HS
 have HS := HS2
 clear HS2
 generalize RS.int ⟨b, 0⟩ = R1 at *
 obtain ⟨t, s1⟩ := R1
 simp only at *
 have ht : (s1.e == 0) = true := by simpa using h1
 have hz : ¬ (t : Int) = 2 ∧ ¬ (t : Int) = 6 ∧ ¬ (t : Int) = 8 ∧ ¬ (t : Int) = 9 := by
  unfold isOld at ho
  simp only [Bool.or_eq_false_iff, decide_eq_false_iff_not] at ho
  omega
 have t2 : ((t : Int) == 2) = false := by simpa using hz.1
 have t6 : ((t : Int) == 6) = false := by simpa using hz.2.1
 have t8 : ((t : Int) == 8) = false := by simpa using hz.2.2.1
 have t9 : ((t : Int) == 9) = false := by simpa using hz.2.2.2
 clear h1 ho hz
 have hzk : (13 : Int) < (t : Int) ∨ ((t : Int) ≤ 13 ∧ ((t : Int) = 5 ∨ (t : Int) = 10 ∨ (t : Int) = 11 ∨ (t : Int) = 12)) := by
  unfold isKind isData isId at hk
  simp only [Bool.or_eq_false_iff, decide_eq_false_iff_not, beq_eq_false_iff_ne, ne_eq] at hk t2 t6 t8 t9
  omega
 clear hk
 generalize (t : Int) = z at *
 go_wp2_with (first
  | (go_at_call 122; refine (bad_any HS.out.rd).mono ?_; rintro e w' ⟨rfl, rfl⟩)
  | fail)
 refine (int_any HS.out.rd).mono ?_
 rintro e w3 ⟨rfl, hr, hM⟩
 have HS2 := Lib.hid (HS.out.toR hM hr)
 clear hr hM HS
 have HS := HS2
 clear HS2
 go_wp2_with fail
 refine (bytes_any s1.int.1 HS.out.rd).mono ?_
 rintro e w4 ⟨vb, rfl, hob, hr, hM⟩
 have HS2 := Lib.hid (HS.out.toR hM hr)
 clear hr hM HS
 have HS := HS2
 clear HS2
 obtain ⟨ba, bc, rfl, _⟩ := byts_val hob.byts
 have HOB := Lib.hid hob
 clear hob
 generalize s1.int = R2 at *
 generalize R2.2.bytes R2.1 = R3 at *
 have ht3 : (R3.2.e != 0) = false := by simpa using HB3.out
 generalize R3.1.length = nb at *
 rw [← HBL.out] at HLL
 have hnn : IntKind.i64.wrap ((bl : Int) - (R3.2.l.length : Int)) = ((bl - R3.2.l.length : Nat) : Int) := by have := HLL.out; have := HL.out; rw [IntWalk.i64_in _ (by omega)]; omega
 rw [← HBL.out] at HRR
 generalize bl - R3.2.l.length = nn at *
 rcases hzk with hz | ⟨_, hz⟩
 ·have hzd : decide ((13 : Int) < z) = true := decide_eq_true hz
  go_wp2_with (first
   | (go_at_call 122; refine (bad_any HS.out.rd).mono ?_; rintro e w' ⟨rfl, rfl⟩)
   | (go_at_call 79; refine (left_any HS.out.rd).mono ?_; rintro e w' ⟨rfl, rfl⟩)
   | ((with_reducible refine wpList_load_blk ?_ 77 (.tmp 5) ?_ (w.heap.size + 1) ?_ zC 77 _ HS.out.f Tryz.underlying77 ?_ size26z ?_); (iterate 4 exact rfl))
   | ((with_reducible refine wpList_store_blk ?_ 77 (.tmp 2) (.tmp 52) ?_ w.heap.size ?_ zC zC ?_ 77 HS.out.res size26z ?_ zC_one ?_); (iterate 5 exact rfl); intro wz hBz hMz)
   | fail)
  refine bodyPost_ret (v := .tuple #[.agg zC, .int .i64 ((nn : Nat) : Int), .int .i64 6]) ?_ rfl ?_
  ·exact next_run Tryz.results117 rfl rfl rfl hBz size26z
  ·rw [HRR.out]
   exact next_zero (HS.out.mod.trans' hMz (fun i hi e => by omega))
 ·have hzd : decide ((13 : Int) < z) = false := decide_eq_false (by omega)
  have hwz : IntKind.i64.wrap z = z := IntWalk.i64_in _ (by omega)
  have HKN : Hid (hkindsF z = none) := by show _ = _; rcases hz with rfl | rfl | rfl | rfl <;> rfl
  have HOK := Lib.hid (hokKey_small (z := z) (by omega) (by omega))
  clear hz
  go_wp2_with (first
   | (go_at_call 122; refine (bad_any HS.out.rd).mono ?_; rintro e w' ⟨rfl, rfl⟩)
   | (go_at_call 79; refine (left_any HS.out.rd).mono ?_; rintro e w' ⟨rfl, rfl⟩)
   | fail)
  refine (hkinds_any _).mono ?_
  rintro e w5 ⟨mb, rfl, hV, hk5⟩
  have HS2 := Lib.hid (HS.out.toF hk5)
  clear HS hk5
  have HS := HS2
  clear HS2
  have hlk := hV.hlook2 (t := 119) (e := 118) HOK.out Tryz.underlying119 (hzero_kind w5)
  rw [HKN.out] at hlk
  simp only [Option.getD_none, Option.isSome_none] at hlk
  clear hV
  go_wp2_with (first
   | ((with_reducible refine wpList_store_blk ?_ 118 (.tmp 10) (.tmp 59) ?_ w5.heap.size ?_ #[.nilFunc, .nilFunc] #[.nilFunc, .nilFunc] ?_ 118 (Blk.new _ _ _) (size55 _ _) ?_ ?_ ?_); (iterate 5 exact rfl); (· intro v hv; simp at hv; rcases hv with rfl | rfl <;> rfl); intro w6 hB6 hM6; have hm6 : Mod (fun _ => False) w5 w6 := ((Mod.refl (fun _ => False) w5).alloc _).trans' hM6 (fun i hi e => by omega); have HX := Lib.hid (HS.out.toF hm6); clear hM6 hm6 HS; have HS := HX; clear HX)
   | ((with_reducible refine wpList_load_blk ?_ 77 (.tmp 5) ?_ (w.heap.size + 1) ?_ zC 77 _ HS.out.f Tryz.underlying77 ?_ size26z ?_); (iterate 4 exact rfl))
   | ((with_reducible refine wpList_store_blk ?_ 77 (.tmp 2) (.tmp 63) ?_ w.heap.size ?_ zC zC ?_ 77 HS.out.res size26z ?_ zC_one ?_); (iterate 5 exact rfl); intro wz hBz hMz)
   | fail)
  refine bodyPost_ret (v := .tuple #[.agg zC, .int .i64 ((nn : Nat) : Int), .int .i64 6]) ?_ rfl ?_
  ·exact next_run Tryz.results117 rfl rfl rfl hBz size26z
  ·rw [HRR.out]
   exact next_zero (HS.out.mod.trans' hMz (fun i hi e => by omega))
end Go.Proofs.YtahgidkpjmecdaaGreatDoor
