/- Parts of the proof: SuE SuF SuG SuH. -/
import Derived.Test.YtahgidkpjmecdaaGreatDoorB16
set_option maxRecDepth 100000
namespace Go.Proofs.YtahgidkpjmecdaaGreatDoor
open Go.RowKit Go.Maps
def K4 (k : Int) : Prop := k = 4 ∨ k = 8 ∨ k = 16 ∨ k = 17
theorem rng_of {f : Fr} (_hr : f.rs = []) (h4 : K4 f.k) : RngOk f := by
 first
 | exact h4
 | (intro x hx; rw [_hr] at hx; cases hx)
theorem OwnFI.append {w : World} {B E : Nat} {v sv : Value} {l : List Fr} {f : Fr} {cs : List Value} (ho : OwnFI w B E v l) (hs : Sl w 24 sv 1 cs) (hf : FrI w B E f cs) (hE : E ≤ w.heap.size) (hB : B ≤ w.heap.size) (hn : l.length ≤ 100000) (ty : TypeId) :
  ∃ v' w', (Builtin.append_ #[86, 86] ty #[v, sv]).run Tryz.prog w = .ok v' w' ∧ OwnFI w' B w'.heap.size v' (l ++ [f]) ∧ w.grownBy w' v.ownBlock ∧ (v'.ownBlock = v.ownBlock ∨ v'.ownBlock = some w.heap.size) := by
 have hall := ho
 obtain ⟨⟨css, h1, h2⟩, h3⟩ := ho
 obtain ⟨i0, hi, hz0, hz1, hz2⟩ := info_parts infoFrU
 obtain ⟨g1, a, cap, rfl, g2, g3, g4, g5⟩ := hs
 cases a with
 | none =>
  have := g4 rfl
  omega
 | some p =>
  obtain ⟨v', w', hr, ho', hg, -, hat⟩ := run_append_own_at (P := Tryz.prog) w B 86 ty 91 i0 _ 24 112 Tryz.underlying86 hi hz0 hz1 hz2 rfl (by decide) v l.length css.flatten h2 p 1 cap cs g1
   (fun j u hu => by
    obtain ⟨b, off, he, hc⟩ := g5 j u hu
    simp only [Option.some.injEq] at he
    subst he
    rw [Addr.add_lit]
    exact hc) hf.one (by unfold maxLen; omega) (by omega) hB
  exact ⟨v', w', hr, hall.grown hf hg h1 ho' (Nat.le_trans hE hg.size), hg, hat⟩
structure FS (n0 : Nat) (w : World) (rb ob : Nat) (room : Int) (v : Value) (l : List Fr) : Prop where
 r : Blk w rb #[.int .i64 room] 3
 o : Blk w ob #[v] 86
 own : OwnFI w n0 w.heap.size v l
 r0 : n0 ≤ rb
 o0 : n0 ≤ ob
def FSS (rb ob : Nat) (v : Value) : Nat → Prop := fun k => k = rb ∨ k = ob ∨ v.ownBlock = some k
def fitB (f : Fr) (room : Int) : Bool := decide (((fputL f).length : Int) ≤ room)
def FitR (n0 : Nat) (w w' : World) (rb ob : Nat) (room : Int) (v : Value) (l : List Fr) (f : Fr) (e : Ending) : Prop :=
 e = .returned (.bool (fitB f room)) ∧ ∃ v', FS n0 w' rb ob (if fitB f room then room - (fputL f).length else room) v' (if fitB f room then l ++ [f] else l) ∧ Mod (FSS rb ob v) w w' ∧ ∀ k, v'.ownBlock = some k → v.ownBlock = some k ∨ w.heap.size ≤ k
theorem FS.still {n0 : Nat} {w w' : World} {rb ob : Nat} {room : Int} {v : Value} {l : List Fr} (h : FS n0 w rb ob room v l) (hM : Mod (fun _ => False) w w') : FS n0 w' rb ob room v l :=
 ⟨hM.blk h.r (fun h => h), hM.blk h.o (fun h => h), (h.own.still hM).more hM.size (Nat.le_refl _), h.r0, h.o0⟩
set_option maxHeartbeats 1000000 in
theorem fit_any {n0 : Nat} {w : World} {rb ob : Nat} {room : Int} {v : Value} {l : List Fr} (q : FS n0 w rb ob room v l) (hT : Tabs w) {f : Fr} {vd : Value} (hf : FrI w n0 w.heap.size f (frL f vd nilS)) (hv : FrV w f vd nilS) (hrl : (f.rs.length : Int) ≤ 100000) (hok : okKey f.k) (hro : RngOk f) (hl : l.length ≤ 99990) (hpl : (fputL f).length ≤ 100000) (hroom : -1000000000 ≤ room ∧ room ≤ 1000000000) (hn : n0 ≤ w.heap.size) :
  Calls Tryz.prog 53 #[.agg (frC f vd nilS), .pointer (some ⟨rb, 0, none⟩), .pointer (some ⟨ob, 0, none⟩)] w fun e w' => FitR n0 w w' rb ob room v l f e := by
 obtain ⟨av, cv, rfl⟩ := q.own.val
 have HB := Lib.hid (FrB.new w f vd nilS hv.t)
 have HM0 : Hid (Mod (fun _ => False) w (w.alloc (.cells (frC f vd nilS) 91))) := Lib.hid ((Mod.refl _ _).alloc _)
 have HPU := Lib.hid (fput_any (HM0.out.tabs hT (fun h => h)) (hv.kept HM0.out) hrl hok hro)
 unfold frV at HPU
 have HSZ := Lib.hid (sizeFrR f vd nilS hv.t)
 have H16 := Lib.hid hv.t
 have HQ := Lib.hid q
 have HF := Lib.hid hf
 have HN := Lib.hid (And.intro hl hn)
 have HBL := Lib.hid HB.out.blk
 obtain ⟨np, hnp⟩ : ∃ np : Nat, (fputL f).length = np := ⟨_, rfl⟩
 have HNP := Lib.hid hnp
 cases hb : fitB f room with
 | false =>
  have HE := Lib.hid hb
  have t1 : decide (room < (np : Int)) = true := decide_eq_true (by unfold fitB at hb; rw [hnp] at hb; have := of_decide_eq_false hb; omega)
  clear q hf hv hT hrl hok hro hl hn hroom hb hnp hpl
  generalize hC : frC f vd nilS = C at *
  go_enter Tryz.func53, Tryz.ntmps53
  go_wp2_with (first
   | ((with_reducible refine wpList_load_blk ?_ 91 (.tmp 3) ?_ w.heap.size ?_ C 91 _ HBL.out Tryz.underlying91 ?_ HSZ.out ?_); (iterate 4 exact rfl))
   | (go_at_call 54; (with_reducible refine HPU.out.mono ?_); rintro e w1 ⟨vp, rfl, hvp, hm⟩; obtain ⟨pa, pc, rfl, -⟩ := Sl.val hvp.byts; rw [HNP.out]; have HM1 := Lib.hid (HM0.out.trans hm); have cr : w1.cell? ⟨rb, 0, none⟩ = some (.int .i64 room) := (HQ.out.still HM1.out).r.cellAt 0 rfl; clear hvp hm)
   | fail)
  go_ret
  refine ⟨by rw [HE.out]; rfl, .slice av l.length cv, ?_, HM1.out.mono (fun _ _ h => h.elim), fun k hk => .inl hk⟩
  rw [HE.out]
  exact HQ.out.still HM1.out
 | true =>
  have HE := Lib.hid hb
  have t1 : decide (room < (np : Int)) = false := decide_eq_false (by unfold fitB at hb; rw [hnp] at hb; have := of_decide_eq_true hb; omega)
  have u1 : IntKind.i64.wrap (room - (np : Int)) = room - (np : Int) := IntWalk.i64_in _ (by omega)
  have hne : ¬ rb = ob := fun e => Blk.ne q.r q.o (by decide) e
  have HNE := Lib.hid hne
  have HPRE : Hid (∀ w1, Mod (fun _ => False) w w1 → ∃ va' vc' w3, (Builtin.append_ #[86, 86] 86 #[.slice av l.length cv, .slice (some ⟨w1.heap.size, 0, none⟩) 1 1]).run Tryz.prog (w1.alloc (.cells (frC f vd nilS) 91)) = .ok (.slice va' (l.length + 1) vc') w3 ∧
    OwnFI w3 n0 w3.heap.size (.slice va' (l.length + 1) vc') (l ++ [f]) ∧ Blk w3 rb #[.int .i64 room] 3 ∧ Blk w3 ob #[.slice av l.length cv] 86 ∧ Mod (fun k => (Value.slice av l.length cv).ownBlock = some k) w w3 ∧ ∀ k, (Value.slice va' (l.length + 1) vc').ownBlock = some k → (Value.slice av l.length cv).ownBlock = some k ∨ w.heap.size ≤ k) := Lib.hid (fun w1 hm => by
   have q1 := q.still hm
   have hmA : Mod (fun _ => False) w1 (w1.alloc (.cells (frC f vd nilS) 91)) := (Mod.refl _ _).alloc _
   have hsz1 := hm.size
   obtain ⟨v', w3, hr, ho3, hg3, hat⟩ := OwnFI.append (q1.own.still hmA) (fr_litI w1 (f := f) (vd := vd) (vr := nilS) hv.t) ((hf.more hsz1 (Nat.le_refl _)).kept (hm.trans hmA) (fun _ _ _ _ _ h => h)) (by simp) (by simp; omega) (by omega) 86
   obtain ⟨va', vc', rfl⟩ := ho3.val
   rw [List.length_append, List.length_singleton] at hr ho3 hat
   have hM3 : Mod (fun k => (Value.slice av l.length cv).ownBlock = some k) (w1.alloc (.cells (frC f vd nilS) 91)) w3 := (Mod.refl (fun k => (Value.slice av l.length cv).ownBlock = some k) _).grown hg3 (fun k hk _ => hk)
   have hap : ∀ {b : Nat} {C : Array Value} {T : TypeId}, Blk w1 b C T → T ≠ 91 → Blk w3 b C T := fun hb hT => hM3.blk (hb.alloc _) (fun e => q1.own.apart hb hT e)
   refine ⟨va', vc', w3, hr, ho3, hap q1.r (by decide), hap q1.o (by decide), (((hm.trans hmA).mono (T := fun k => (Value.slice av l.length cv).ownBlock = some k) (fun _ _ h => h.elim)).trans hM3), fun k hk => ?_⟩
   rcases hat with e | e
   ·rw [e] at hk
    exact .inl hk
   ·rw [e] at hk
    right
    have h1 : (w1.alloc (.cells (frC f vd nilS) 91)).heap.size = w1.heap.size + 1 := by simp
    simp at hk
    omega)
  have hol : FS n0 w rb ob room (.slice av l.length cv) l := q
  clear q hf hv hT hrl hok hro hl hn hroom hb hnp hpl hol
  go_enter Tryz.func53, Tryz.ntmps53
  go_wp2_with (first
   | ((with_reducible refine wpList_load_blk ?_ 91 (.tmp 3) ?_ w.heap.size ?_ (frC f vd nilS) 91 _ HBL.out Tryz.underlying91 ?_ HSZ.out ?_); (iterate 4 exact rfl))
   | (go_at_call 54; (with_reducible refine HPU.out.mono ?_); rintro e w1 ⟨vp, rfl, hvp, hm⟩; obtain ⟨pa, pc, rfl, -⟩ := Sl.val hvp.byts; rw [HNP.out]; have HM1 := Lib.hid (HM0.out.trans hm); have HB1 := Lib.hid (hm.blk HBL.out (fun h => h)); have cr : w1.cell? ⟨rb, 0, none⟩ = some (.int .i64 room) := (HQ.out.still HM1.out).r.cellAt 0 rfl; have co : w1.cell? ⟨ob, 0, none⟩ = some (.slice av l.length cv) := (HQ.out.still HM1.out).o.cellAt 0 rfl; obtain ⟨va', vc', w3, har, hfin⟩ := HPRE.out w1 HM1.out; have HAR := Lib.hid har; have HFI := Lib.hid hfin; have co3 : w3.cell? ⟨ob, 0, none⟩ = some (.slice av l.length cv) := hfin.2.2.1.cellAt 0 rfl; have fo3 : w3.frozen? ⟨ob, 0, none⟩ = false := hfin.2.2.1.free 0; have cr3 : w3.cell? ⟨rb, 0, none⟩ = some (.int .i64 room) := hfin.2.1.cellAt 0 rfl; have fr3 : w3.frozen? ⟨rb, 0, none⟩ = false := hfin.2.1.free 0; clear hvp hm har hfin)
   | ((with_reducible refine wpList_load_blk ?_ 91 (.tmp 3) ?_ w.heap.size ?_ (frC f vd nilS) 91 _ HB1.out Tryz.underlying91 ?_ HSZ.out ?_); (iterate 4 exact rfl))
   | ((with_reducible refine wpList_build_fi ?_ (.tmp 13) ?_ f vd nilS ?_ ?_ ?_); (iterate 2 exact rfl); (· exact H16.out); (· exact rfl))
   | ((with_reducible refine wpList_val ?_ (exec_app (s := .tmp 12) (x := .tmp 14) ?_ ?_ ?_ HAR.out) ?_); (iterate 4 exact rfl))
   | fail)
  go_ret
  refine ⟨by rw [HE.out]; rfl, .slice va' (l.length + 1) vc', ?_, ?_, HFI.out.2.2.2.2⟩
  ·rw [HE.out, if_pos rfl, if_pos rfl, HNP.out]
   obtain ⟨g1, g2, g3, g4, -⟩ := HFI.out
   have hne' : ¬ ob = rb := fun e => HNE.out e.symm
   have m1 : Mod (fun k => k = ob) w3 (w3.setCell ⟨ob, 0, none⟩ (.slice va' (l.length + 1) vc')) := (Mod.refl (fun k => k = ob) _).setCell (p := ⟨ob, 0, none⟩) (fun _ => rfl) _
   have m2 : Mod (fun k => k = ob ∨ k = rb) w3 ((w3.setCell ⟨ob, 0, none⟩ (.slice va' (l.length + 1) vc')).setCell ⟨rb, 0, none⟩ (.int .i64 (room - (np : Int)))) := (m1.mono (T := fun k => k = ob ∨ k = rb) (fun _ _ e => .inl e)).setCell (p := ⟨rb, 0, none⟩) (fun _ => .inr rfl) _
   refine ⟨(g2.setOther (a := ⟨ob, 0, none⟩) HNE.out _).set 0 (.int .i64 (room - (np : Int))), (g3.set 0 (.slice va' (l.length + 1) vc')).setOther (a := ⟨rb, 0, none⟩) hne' _, ?_, HQ.out.r0, HQ.out.o0⟩
   have hk := g1.apart g2 (by decide)
   have hk2 := g1.apart g3 (by decide)
   have hsz := m2.size
   refine OwnFI.more (E := w3.heap.size) ?_ hsz (Nat.le_refl _)
   obtain ⟨⟨css, h1, h2⟩, h3⟩ := g1
   refine ⟨⟨css, h1.kept m2 (fun b C hb _ _ e => ?_), m2.own h2 (fun g hg e => ?_)⟩, h3⟩
   ·rcases e with e | e
    ·exact Blk.ne hb g3 (by decide) e
    ·exact Blk.ne hb g2 (by decide) e
   ·rcases e with e | e
    ·exact hk2 (e ▸ hg)
    ·exact hk (e ▸ hg)
  ·obtain ⟨g1, g2, g3, g4, -⟩ := HFI.out
   exact ((g4.mono (T := FSS rb ob (.slice av l.length cv)) (fun _ _ e => .inr (.inr e))).setCell (p := ⟨ob, 0, none⟩) (fun _ => .inr (.inl rfl)) _).setCell (p := ⟨rb, 0, none⟩) (fun _ => .inl rfl) _
structure FO where
 T : Tb
 room : Int
 l : List Fr
 ret : Bool
def untell (T : Tb) (id : Nat) (k : Int) : Tb := { T with m := updM T.m id (setTell (T.m id) k false) }
def dueStep (id : Nat) : List Fr → FO → FO
 | [], s => s
 | f :: fs, s => if fitB f s.room then dueStep id fs ⟨untell s.T id f.k, s.room - (fputL f).length, s.l ++ [f], false⟩ else { s with ret := true }
def phase1 : List Int → FO → FO
 | [], s => s
 | z :: zs, s => if (dueStep z.toNat (dueL (s.T.m z) z.toNat) s).ret then dueStep z.toNat (dueL (s.T.m z) z.toNat) s else phase1 zs (dueStep z.toNat (dueL (s.T.m z) z.toNat) s)
def phase2 (s : FO) : FO :=
 if s.T.tell then (if fitB (dataF (s.T.read + s.T.own.d)) s.room then ⟨{ s.T with tell := false }, s.room - (fputL (dataF (s.T.read + s.T.own.d))).length, s.l ++ [dataF (s.T.read + s.T.own.d)], false⟩ else { s with ret := true })
 else { s with T := { s.T with tell := false } }
def pump (id : Nat) : Nat → FO → FO
 | 0, s => s
 | n + 1, s => match (s.T.m id).out with
  | none => s
  | some o => if (s.T.m id).reset then s
   else if s.room < 21 then { s with ret := true }
   else if (dueO (nextO1 s.T (s.T.m id) o (min (s.room.toNat - 20) 200)) (min (s.room.toNat - 20) 200)).ok then
    pump id n ⟨nextT s.T id o (min (s.room.toNat - 20) 200), s.room - (fputL (nextF' s.T id o (min (s.room.toNat - 20) 200))).length, s.l ++ [nextF' s.T id o (min (s.room.toNat - 20) 200)], false⟩
   else { s with T := nextT s.T id o (min (s.room.toNat - 20) 200) }
def phase3 : List Int → FO → FO
 | [], s => s
 | z :: zs, s => if (pump z.toNat (s.room.toNat + 1) s).ret then pump z.toNat (s.room.toNat + 1) s else phase3 zs (pump z.toNat (s.room.toNat + 1) s)
def framesO (T : Tb) (room : Int) : FO :=
 let s1 := phase1 (sortI T.dom) ⟨T, room, [], false⟩
 if s1.ret then s1 else
 let s2 := phase2 s1
 if s2.ret then s2 else phase3 (sortI T.dom) s2
theorem szN_small {n : Nat} (h : n < 16384) : (putL n).length ≤ 2 := by
 rw [putL_length]
 unfold szN
 repeat' split
 all_goals omega
theorem stream_right {id off : Nat} {d : List UInt8} {e : Bool} (h1 : id ≤ topN) (h2 : off + d.length ≤ topN) (h3 : d.length ≤ 1200) : rightF (streamF id off d e) = true := by
 unfold rightF maskK streamF
 have h4 : off ≤ topN := by omega
 simp [maskN, topB, sameF, onlyF, okN, h1, h2, h3, h4]
 decide
theorem stream_len {id off : Nat} {d : List UInt8} {e : Bool} (h1 : id ≤ topN) (h2 : off + d.length ≤ topN) (h3 : d.length ≤ 1200) : 1 ≤ (fputL (streamF id off d e)).length ∧ (fputL (streamF id off d e)).length ≤ 19 + d.length := by
 have a1 := putL_len id
 have a2 := putL_len off
 have a3 := szN_small (n := d.length) (by omega)
 unfold fputL
 rw [if_pos (stream_right h1 h2 h3)]
 refine ⟨by simp, ?_⟩
 show (bodyN 8 (streamF id off d e)).length + 1 ≤ _
 unfold bodyN streamF dataL
 simp only [List.length_append]
 split
 ·simp only [List.length_nil]; omega
 ·omega
structure FInv (T : Tb) : Prop where
 small : Small T
 len : T.dom.length ≤ lenMax
 ids : ∀ z ∈ T.dom, 0 ≤ z ∧ z ≤ 1000000
 tS : ∀ z ∈ T.dom, (T.m z).tS = false
 tR : ∀ z ∈ T.dom, (T.m z).tR = true → ∃ o, (T.m z).out = some o
 tM : ∀ z ∈ T.dom, (T.m z).tM = true → (T.m z).over = false → ∃ o, (T.m z).inn = some o
 code : ∀ z ∈ T.dom, (T.m z).code ≤ topN
 inn : ∀ z ∈ T.dom, ∀ o, (T.m z).inn = some o → o.read + o.win ≤ topN
 outs : ∀ z ∈ T.dom, ∀ o, (T.m z).out = some o → o.s.length ≤ 2000 ∧ o.b.length ≤ 2000
theorem FInv.upd {T : Tb} (h : FInv T) {z : Int} {s : St} (h1 : topS s ≤ 1000000) (h2 : s.given ≤ 1000000) (h3 : s.tS = false) (h4 : s.tR = true → ∃ o, s.out = some o) (h5 : s.tM = true → s.over = false → ∃ o, s.inn = some o) (h6 : s.code ≤ topN) (h7 : ∀ o, s.inn = some o → o.read + o.win ≤ topN) (h8 : ∀ o, s.out = some o → o.s.length ≤ 2000 ∧ o.b.length ≤ 2000) : FInv { T with m := updM T.m z s } := by
 have hc : ∀ (P : St → Prop), P s → (∀ y ∈ T.dom, P (T.m y)) → ∀ y ∈ T.dom, P (updM T.m z s y) := fun P hs hT y hy => by
  by_cases e : y = z
  ·rw [e, updM_same]; exact hs
  ·rw [updM_other e]; exact hT y hy
 exact ⟨⟨h.small.len, hc (fun s => topS s ≤ 1000000) h1 h.small.tops, hc (fun s => s.given ≤ 1000000) h2 h.small.givens, h.small.read⟩, h.len, h.ids, hc (fun s => s.tS = false) h3 h.tS, hc (fun s => s.tR = true → ∃ o, s.out = some o) h4 h.tR, hc (fun s => s.tM = true → s.over = false → ∃ o, s.inn = some o) h5 h.tM, hc (fun s => s.code ≤ topN) h6 h.code, hc (fun s => ∀ o, s.inn = some o → o.read + o.win ≤ topN) h7 h.inn, hc (fun s => ∀ o, s.out = some o → o.s.length ≤ 2000 ∧ o.b.length ≤ 2000) h8 h.outs⟩
theorem FInv.tell {T : Tb} (h : FInv T) (b : Bool) : FInv { T with tell := b } := ⟨⟨h.small.len, h.small.tops, h.small.givens, h.small.read⟩, h.len, h.ids, h.tS, h.tR, h.tM, h.code, h.inn, h.outs⟩
theorem setTell_tops (s : St) (k : Int) (b : Bool) : topS (setTell s k b) = topS s ∧ (setTell s k b).given = s.given ∧ (setTell s k b).out = s.out ∧ (setTell s k b).inn = s.inn ∧ (setTell s k b).over = s.over ∧ (setTell s k b).code = s.code := by
 unfold setTell
 split
 ·exact ⟨rfl, rfl, rfl, rfl, rfl, rfl⟩
 ·split
  ·exact ⟨rfl, rfl, rfl, rfl, rfl, rfl⟩
  ·split
   ·exact ⟨rfl, rfl, rfl, rfl, rfl, rfl⟩
   ·exact ⟨rfl, rfl, rfl, rfl, rfl, rfl⟩
theorem setTell_le (s : St) (k : Int) : ((setTell s k false).tS = true → s.tS = true) ∧ ((setTell s k false).tR = true → s.tR = true) ∧ ((setTell s k false).tM = true → s.tM = true) := by
 unfold setTell
 split
 ·exact ⟨fun h => h, fun h => (by cases h), fun h => h⟩
 ·split
  ·exact ⟨fun h => (by cases h), fun h => h, fun h => h⟩
  ·split
   ·exact ⟨fun h => h, fun h => h, fun h => (by cases h)⟩
   ·exact ⟨fun h => h, fun h => h, fun h => h⟩
theorem FInv.untell {T : Tb} (h : FInv T) {id : Nat} (hz : (id : Int) ∈ T.dom) (k : Int) : FInv (untell T id k) := by
 obtain ⟨e1, e2, e3, e4, e5, e6⟩ := setTell_tops (T.m id) k false
 obtain ⟨l1, l2, l3⟩ := setTell_le (T.m id) k
 refine h.upd (by rw [e1]; exact h.small.tops _ hz) (by rw [e2]; exact h.small.givens _ hz) ?_ (fun ht => ?_) (fun ht ho => ?_) (by rw [e6]; exact h.code _ hz) (by rw [e4]; exact h.inn _ hz) (by rw [e3]; exact h.outs _ hz)
 ·have := h.tS _ hz
  cases hb : (setTell (T.m id) k false).tS
  ·rfl
  ·rw [l1 hb] at this; cases this
 ·rw [e3]; exact h.tR _ hz (l2 ht)
 ·rw [e4]; rw [e5] at ho; exact h.tM _ hz (l3 ht) ho
theorem nextG_le {T : Tb} {s : St} {o : OB} (many : Nat) (h1 : s.given ≤ 1000000) (h2 : o.b.length ≤ 2000) : nextG T s o many ≤ 1000000 := by
 unfold nextG
 split
 ·unfold newGiven nextWant
  omega
 ·exact h1
theorem FInv.next {T : Tb} (h : FInv T) {id : Nat} (hz : (id : Int) ∈ T.dom) {o : OB} (ho : (T.m id).out = some o) (many : Nat) : FInv (nextT T id o many) :=
 h.upd (h.small.tops _ hz) (nextG_le many (h.small.givens _ hz) (h.outs _ hz o ho).2) (h.tS _ hz) (fun _ => ⟨_, rfl⟩) (h.tM _ hz) (h.code _ hz) (h.inn _ hz) (fun o2 e => by
  cases e
  have h1 := h.outs _ hz o ho
  have e1 : (nextO1 T (T.m id) o many).s = o.s ∧ (nextO1 T (T.m id) o many).b = o.b := by
   unfold nextO1
   split
   ·unfold raiseO; split <;> exact ⟨rfl, rfl⟩
   ·exact ⟨rfl, rfl⟩
  unfold nextO
  dsimp only
  rw [mapR_len, e1.1, e1.2]
  exact h1)
theorem sentO_le (o : OB) : sentO o ≤ o.s.length := by
 unfold sentO
 rcases idx_range (l := o.s) (c := 0) with h | ⟨k, h, hk⟩
 ·rw [h, if_pos (by decide)]; exact Nat.le_refl _
 ·rw [h, if_neg (by omega)]; omega
theorem plain_right {k : Int} {id a c : Nat} (hk : (k = 4) ∨ (k = 17 ∧ c = 0) ∨ (k = 16 ∧ id = 0 ∧ c = 0)) (h1 : id ≤ topN) (h2 : a ≤ topN) (h3 : c ≤ topN) : rightF ⟨k, id, a, 0, c, false, [], [], z16⟩ = true := by
 rcases hk with rfl | ⟨rfl, rfl⟩ | ⟨rfl, rfl, rfl⟩ <;> (
  unfold rightF maskK
  simp [maskN, topB, sameF, onlyF, okN, h1, h2, h3]
  try decide)
theorem fputL_pos {f : Fr} (h : rightF f = true) : 1 ≤ (fputL f).length := by
 unfold fputL
 rw [if_pos h]
 simp
theorem FInv.due {T : Tb} (h : FInv T) {id : Nat} (hz : (id : Int) ∈ T.dom) : ∀ f ∈ dueL (T.m id) id, 1 ≤ (fputL f).length := by
 intro f hf
 have hid := (h.ids _ hz).2
 have e0 : topN = 4611686018427387903 := rfl
 unfold dueL at hf
 rcases List.mem_append.1 hf with hh | hh
 ·split at hh
  ·rename_i ht
   have := List.mem_singleton.1 hh
   subst this
   obtain ⟨o, ho⟩ := h.tR _ hz ht
   refine fputL_pos (plain_right (.inl rfl) (by omega) ?_ (h.code _ hz))
   rw [ho]
   have := sentO_le o
   have := (h.outs _ hz o ho).1
   show sentO o ≤ topN
   omega
  ·cases hh
 ·split at hh
  ·have := List.mem_singleton.1 hh
   subst this
   refine fputL_pos (plain_right (.inr (.inl ⟨rfl, rfl⟩)) (by omega) ?_ (Nat.zero_le _))
   cases hin : (T.m id).inn with
   | none => exact Nat.zero_le _
   | some o => exact h.inn _ hz o hin
  ·cases hh
theorem fputL_le {w : World} {f : Fr} {vd vr : Value} (hv : FrV w f vd vr) : (fputL f).length ≤ 100000 := by
 unfold fputL
 split
 ·rename_i hr
  have := body_len hr hv.t
  simp only [List.length_cons]
  omega
 ·simp
structure FC (B : Nat) (w : World) (tb mb : Nat) (G : Int → SM) (T : Tb) (rb ob : Nat) (wr : World) (s : FO) (v : Value) : Prop where
 tt : TT B w wr tb mb G G T s.T
 fs : FS w.heap.size wr rb ob s.room v s.l
 inv : FInv s.T
 dom : s.T.dom = T.dom
 tabs : Tabs wr
 sub : ∀ k, TS tb mb G s.T k → TS tb mb G T k
 room : 0 ≤ s.room ∧ (s.l.length : Int) + s.room ≤ 90000
 tab0 : Tabs w
 gb : 1 < B
 old : TBuf B w tb mb G T
theorem FC.lt {B : Nat} {w : World} {tb mb : Nat} {G : Int → SM} {T : Tb} {rb ob : Nat} {wr : World} {s : FO} {v : Value} (h : FC B w tb mb G T rb ob wr s v) : ∀ k, TS tb mb G s.T k → k < w.heap.size := fun k hk => (h.old.lt k (h.sub k hk)).2
theorem FC.fss {B : Nat} {w : World} {tb mb : Nat} {G : Int → SM} {T : Tb} {rb ob : Nat} {wr : World} {s : FO} {v : Value} (h : FC B w tb mb G T rb ob wr s v) : ∀ k, FSS rb ob v k → w.heap.size ≤ k := by
 rintro k (e | e | e)
 ·rw [e]; exact h.fs.r0
 ·rw [e]; exact h.fs.o0
 ·exact (h.fs.own.lt k e).1
theorem FC.fit {B : Nat} {w : World} {tb mb : Nat} {G : Int → SM} {T : Tb} {rb ob : Nat} {wr w' : World} {s : FO} {v v' : Value} {f : Fr} (h : FC B w tb mb G T rb ob wr s v) (hf : fitB f s.room = true) (h1 : 1 ≤ (fputL f).length) (hFS : FS w.heap.size w' rb ob (s.room - (fputL f).length) v' (s.l ++ [f])) (hM : Mod (FSS rb ob v) wr w') :
  FC B w tb mb G T rb ob w' ⟨s.T, s.room - (fputL f).length, s.l ++ [f], false⟩ v' := by
 have hlt := h.lt
 have hfs := h.fss
 refine ⟨⟨h.tt.1.kept hM (fun k hk e => by have := hlt k hk; have := hfs k e; omega), fun k hk => (h.tt.2.1 k hk).imp_right (fun e => ⟨e.1, Nat.lt_of_lt_of_le e.2 hM.size⟩), h.tt.2.2.trans' hM (fun k hk e => by have := hfs k e; omega)⟩, hFS, h.inv, h.dom, hM.tabs h.tabs (fun e => by have := hfs _ e; have := block_lt_of_cell h.tab0.1; dsimp only at this; omega), h.sub, ?_, h.tab0, h.gb, h.old⟩
 have := h.room
 have hr := of_decide_eq_true hf
 refine ⟨by dsimp only; omega, ?_⟩
 simp only [List.length_append, List.length_singleton]
 push_cast
 omega
theorem FC.table {B : Nat} {w : World} {tb mb : Nat} {G : Int → SM} {T T' : Tb} {rb ob : Nat} {wr w' : World} {s : FO} {v : Value} (h : FC B w tb mb G T rb ob wr s v) (hT : TT B wr w' tb mb G G s.T T') (hi : FInv T') (hd : T'.dom = s.T.dom) (hs : ∀ k, TS tb mb G T' k → TS tb mb G s.T k) :
  FC B w tb mb G T rb ob w' { s with T := T' } v := by
 have hlt := h.lt
 have hno : ∀ k, w.heap.size ≤ k → ¬ TS tb mb G s.T k := fun k hk e => by have := hlt k e; omega
 refine ⟨h.tt.trans hT, ⟨hT.2.2.blk h.fs.r (hno _ h.fs.r0), hT.2.2.blk h.fs.o (hno _ h.fs.o0), (h.fs.own.kept hT.2.2 (fun b hb _ => hno b hb)).more hT.2.2.size (Nat.le_refl _), h.fs.r0, h.fs.o0⟩, hi, hd.trans h.dom, ?_, fun k hk => h.sub k (hs k hk), h.room, h.tab0, h.gb, h.old⟩
 exact hT.2.2.tabs h.tabs (fun e => by have := (h.tt.1.lt _ e).1; have := h.gb; omega)
theorem FC.still {B : Nat} {w : World} {tb mb : Nat} {G : Int → SM} {T : Tb} {rb ob : Nat} {wr w' : World} {s : FO} {v : Value} (h : FC B w tb mb G T rb ob wr s v) (hM : Mod (fun _ => False) wr w') : FC B w tb mb G T rb ob w' s v :=
 ⟨h.tt.trans (h.tt.1.stay hM), h.fs.still hM, h.inv, h.dom, hM.tabs h.tabs (fun e => e), h.sub, h.room, h.tab0, h.gb, h.old⟩
theorem OwnU.apart {w : World} {B b : Nat} {v : Value} {l : List Int} {C : Array Value} {T : TypeId} (h : OwnU w B v l) (hb : Blk w b C T) (ht : T ≠ 34) : ¬ v.ownBlock = some b := by
 intro e
 rcases h.2 with ⟨rfl, _⟩ | ⟨g, cap, cur, rfl, _, hg, _⟩
 ·simp [Value.ownBlock] at e
 ·simp [Value.ownBlock] at e
  subst e
  exact Blk.ne hb (show Blk w g cur 34 from hg) ht rfl
theorem OwnU.lt {w : World} {B : Nat} {v : Value} {l : List Int} (h : OwnU w B v l) : ∀ g, v.ownBlock = some g → B ≤ g ∧ g < w.heap.size := fun g hg => World.ownsRow.lt h g hg
theorem OwnFI.apartU {w : World} {B E B2 b : Nat} {v u : Value} {l : List Fr} {ids : List Int} (h : OwnFI w B E v l) (hu : OwnU w B2 u ids) (hb : u.ownBlock = some b) : ¬ v.ownBlock = some b := by
 rcases hu.2 with ⟨rfl, _⟩ | ⟨g, cap, cur, rfl, _, hg, _⟩
 ·simp [Value.ownBlock] at hb
 ·simp [Value.ownBlock] at hb
  subst hb
  exact h.apart (show Blk w g cur 34 from hg) (by decide)
theorem OwnU.fit {n0 : Nat} {wr w' : World} {rb ob : Nat} {room : Int} {v u : Value} {l : List Fr} {ids : List Int} {B2 : Nat} (hu : OwnU wr B2 u ids) (h : FS n0 wr rb ob room v l) (hM : Mod (FSS rb ob v) wr w') : OwnU w' B2 u ids :=
 hu.kept hM (fun g hg e => by
  rcases e with e | e | e
  ·exact hu.apart h.r (by decide) (e ▸ hg)
  ·exact hu.apart h.o (by decide) (e ▸ hg)
  ·exact h.own.apartU hu hg e)
theorem FC.start {B : Nat} {w : World} {tb mb : Nat} {G : Int → SM} {T : Tb} (q : TBuf B w tb mb G T) (hi : FInv T) (ht : Tabs w) (hg : 1 < B) (room : Int) (hr : 0 ≤ room ∧ room ≤ 80000) :
  FC B w tb mb G T w.heap.size (w.heap.size + 1) ((w.alloc (.cells #[.int .i64 room] 3)).alloc (.cells #[.slice none 0 0] 86)) ⟨T, room, [], false⟩ (.slice none 0 0) := by
 have hM : Mod (fun _ => False) w ((w.alloc (.cells #[.int .i64 room] 3)).alloc (.cells #[.slice none 0 0] 86)) := ((Mod.refl _ _).alloc _).alloc _
 have b1 := Blk.new w #[.int .i64 room] 3
 have b2 := Blk.new (w.alloc (.cells #[.int .i64 room] 3)) #[.slice none 0 0] 86
 rw [World.size_alloc] at b2
 exact ⟨q.stay hM, ⟨b1.alloc _, b2, OwnFI.nil _ _ _, Nat.le_refl _, Nat.le_succ _⟩, hi, rfl, hM.tabs ht (fun h => h), fun _ h => h, by dsimp only; simp; omega, ht, hg, q⟩
theorem TS_untell (tb mb : Nat) (G : Int → SM) (T : Tb) (id : Nat) (k : Int) : ∀ j, TS tb mb G (untell T id k) j → TS tb mb G T j := by
 rintro j (h | h | ⟨z, hz, hk⟩)
 ·exact .inl h
 ·exact .inr (.inl h)
 ·refine .inr (.inr ⟨z, hz, ?_⟩)
  have hk2 : SS (G z) (updM T.m id (setTell (T.m id) k false) z) j := hk
  by_cases hs : z = id
  ·rw [hs, updM_same] at hk2
   obtain ⟨e1, e2, -⟩ := setTell_same (s := T.m id) (z := k) false
   unfold SS SO SI at *
   rw [e1, e2] at hk2
   rw [hs]
   exact hk2
  ·rw [updM_other hs] at hk2
   exact hk2
theorem FC.untell {B : Nat} {w : World} {tb mb : Nat} {G : Int → SM} {T : Tb} {rb ob : Nat} {wr : World} {s : FO} {v : Value} (h : FC B w tb mb G T rb ob wr s v) {id : Nat} (hz : (id : Int) ∈ s.T.dom) {k : Int} (hk : tellK k) :
  ∃ w', (Instr.mapUpdate 107 (.map (some (G id).tb)) (.int .i64 k) (.bool false)).run Tryz.prog wr = .ok () w' ∧ FC B w tb mb G T rb ob w' { s with T := untell s.T id k } v ∧ Mod (fun j => j < w.heap.size) wr w' := by
 obtain ⟨w', hr, hsc⟩ := (h.tt.1.strs _ hz).tellPut hk false
 have htt := hsc.tt h.tt.1 hz
 exact ⟨w', hr, h.table htt (h.inv.untell hz k) rfl (TS_untell _ _ _ _ _ _), htt.2.2.mono (fun j _ e => h.lt j e)⟩
theorem runO_many {s : List UInt8} {st : UInt8} {top many : Nat} {p : Nat × Nat} (h : runO s st top many = some p) : p.2 ≤ p.1 + many := by
 unfold runO at h
 split at h
 ·cases h
 ·cases h
  unfold runL
  dsimp only
  omega
theorem dueO_many (o : OB) (many : Nat) : (dueO o many).t ≤ (dueO o many).a + many := by
 unfold dueO
 split
 ·rename_i p h
  exact runO_many h
 ·split
  ·rename_i p h
   exact runO_many h
  ·split <;> simp
theorem nextB_len (o : OB) (many : Nat) : (nextB o many).length ≤ many := by
 have := dueO_many o many
 unfold nextB
 simp
 omega
theorem nextO1_same (T : Tb) (s : St) (o : OB) (many : Nat) : (nextO1 T s o many).s = o.s ∧ (nextO1 T s o many).b = o.b := by
 unfold nextO1
 split
 ·unfold raiseO
  split <;> exact ⟨rfl, rfl⟩
 ·exact ⟨rfl, rfl⟩
theorem FInv.nextF {T : Tb} (h : FInv T) {id : Nat} (hz : (id : Int) ∈ T.dom) {o : OB} (ho : (T.m id).out = some o) {many : Nat} (hm : many ≤ 200) : 1 ≤ (fputL (nextF' T id o many)).length ∧ (fputL (nextF' T id o many)).length ≤ 19 + many := by
 have e0 : topN = 4611686018427387903 := rfl
 have h1 := (h.ids _ hz).2
 have h2 := (h.outs _ hz o ho).1
 have h3 := nextB_len (nextO1 T (T.m id) o many) many
 have h4 := dueO_le (nextO1 T (T.m id) o many) many
 rw [(nextO1_same T (T.m id) o many).1] at h4
 have := stream_len (id := id) (off := (dueO (nextO1 T (T.m id) o many) many).a) (d := nextB (nextO1 T (T.m id) o many) many) (e := (dueO (nextO1 T (T.m id) o many) many).e) (by omega) (by omega) (by omega)
 unfold nextF'
 omega
theorem FC.fitAny {B : Nat} {w : World} {tb mb : Nat} {G : Int → SM} {T : Tb} {rb ob : Nat} {wr : World} {s : FO} {v : Value} (h : FC B w tb mb G T rb ob wr s v) {f : Fr} {vd : Value} (hf : FrI wr w.heap.size wr.heap.size f (frL f vd nilS)) (hv : FrV wr f vd nilS) (hr : f.rs = []) (hk : okKey f.k ∧ K4 f.k) :
  Calls Tryz.prog 53 #[.agg (frC f vd nilS), .pointer (some ⟨rb, 0, none⟩), .pointer (some ⟨ob, 0, none⟩)] wr fun e w' => FitR w.heap.size wr w' rb ob s.room v s.l f e :=
 fit_any h.fs h.tabs hf hv (by rw [hr]; decide) hk.1 (rng_of hr hk.2) (by have := h.room; omega) (fputL_le hv) (by have := h.room; omega) h.tt.2.2.size
theorem dataF_fit {B : Nat} {w : World} {tb mb : Nat} {G : Int → SM} {T : Tb} {rb ob : Nat} {wr : World} {s : FO} {v : Value} (h : FC B w tb mb G T rb ob wr s v) (a : Nat) :
  Calls Tryz.prog 53 #[.agg (frC (dataF a) nilS nilS), .pointer (some ⟨rb, 0, none⟩), .pointer (some ⟨ob, 0, none⟩)] wr fun e w' => FitR w.heap.size wr w' rb ob s.room v s.l (dataF a) e := by
 have hi := FrI.plain wr w.heap.size wr.heap.size (dataF a) rfl rfl rfl
 refine h.fitAny hi ?_ rfl ⟨show okKey 16 from okKey_small (by decide) (by decide), .inr (.inr (.inl rfl))⟩
 obtain ⟨vd, e1, e2⟩ := hi.frv (by show ((([] : List UInt8).length : Nat) : Int) ≤ _; simp)
 have : vd = nilS := by
  have e3 := congrArg (fun l => l[6]?) e1
  simpa [frL, nilS] using e3.symm
 subst this
 exact e2
theorem FInv.data {T : Tb} (h : FInv T) (hd : T.own.d ≤ 100000) : 1 ≤ (fputL (dataF (T.read + T.own.d))).length := by
 have e0 : topN = 4611686018427387903 := rfl
 have := h.small.read
 exact fputL_pos (plain_right (.inr (.inr ⟨rfl, rfl, rfl⟩)) (Nat.zero_le _) (by omega) (Nat.zero_le _))
def roomW (w : World) (rb : Nat) : Nat := match w.cell? ⟨rb, 0, none⟩ with
 | some (.int _ z) => z.toNat
 | _ => 0
theorem roomW_eq {w : World} {rb : Nat} {z : Int} (h : w.cell? ⟨rb, 0, none⟩ = some (.int .i64 z)) : roomW w rb = z.toNat := by
 unfold roomW
 rw [h]
theorem strm_frv {w : World} {B : Nat} {f : Fr} {vd : Value} (hv : OwnB w B vd f.d) (hr : f.rs = []) (h16 : f.t.length = 16) (hl : (f.d.length : Int) ≤ 140737488355328) : FrV w f vd nilS := by
 refine ⟨hv.byts, ?_, h16, hl, by rw [hr]; decide⟩
 rw [hr]
 exact ⟨rfl, none, 0, rfl, Nat.le_refl _, by decide, fun _ => rfl, fun j u hu => by simp at hu⟩
def Ph2 (s s2 : FO) (b : Bool) : Prop := (b = true → phase2 s = { s2 with ret := true }) ∧ (b = false → phase2 s = { s2 with T := { s2.T with tell := false } })
theorem framesO_two {T : Tb} {room : Int} {L : List Int} {s s3 : FO} (hL : sortI T.dom = L) (h : phase1 L ⟨T, room, [], false⟩ = s) (hs : s.ret = false) (h2 : phase2 s = s3) : framesO T room = if s3.ret then s3 else phase3 L s3 := by
 unfold framesO
 rw [hL, h]
 simp only [hs, h2, Bool.false_eq_true, if_false]
theorem phase3_step {L : List Int} {i : Nat} {id : Nat} {s s' R : FO} (hz : L[i]? = some (id : Int)) (h : phase3 (L.drop i) s = R) (hp : pump id (s.room.toNat + 1) s = s') : (s'.ret = false → phase3 (L.drop (i + 1)) s' = R) ∧ (s'.ret = true → R = s') := by
 have hi2 := (List.getElem?_eq_some_iff.1 hz).1
 rw [List.drop_eq_getElem_cons hi2, (List.getElem?_eq_some_iff.1 hz).2] at h
 have e : phase3 ((id : Int) :: L.drop (i + 1)) s = if (pump id (s.room.toNat + 1) s).ret then pump id (s.room.toNat + 1) s else phase3 (L.drop (i + 1)) (pump id (s.room.toNat + 1) s) := rfl
 rw [e, hp] at h
 constructor
 ·intro hr
  rw [hr, if_neg (by decide)] at h
  exact h
 ·intro hr
  rw [hr, if_pos rfl] at h
  exact h.symm
theorem pump_none {id n : Nat} {s : FO} (ho : (s.T.m id).out = none) : pump id (n + 1) s = s := by
 unfold pump
 rw [ho]
theorem pump_reset {id n : Nat} {s : FO} {o : OB} (ho : (s.T.m id).out = some o) (hr : (s.T.m id).reset = true) : pump id (n + 1) s = s := by
 unfold pump
 rw [ho]
 dsimp only
 rw [if_pos hr]
theorem pump_full {id n : Nat} {s : FO} {o : OB} (ho : (s.T.m id).out = some o) (hr : (s.T.m id).reset = false) (h21 : s.room < 21) : pump id (n + 1) s = { s with ret := true } := by
 unfold pump
 rw [ho]
 dsimp only
 rw [if_neg (by rw [hr]; decide), if_pos h21]
theorem pump_stop {id n many : Nat} {s : FO} {o : OB} (ho : (s.T.m id).out = some o) (hr : (s.T.m id).reset = false) (h21 : ¬ s.room < 21) (hm : min (s.room.toNat - 20) 200 = many) (hok : (dueO (nextO1 s.T (s.T.m id) o many) many).ok = false) : pump id (n + 1) s = { s with T := nextT s.T id o many } := by
 subst hm
 unfold pump
 rw [ho]
 dsimp only
 rw [if_neg (by rw [hr]; decide), if_neg h21, hok, if_neg (by decide)]
theorem pump_go {id n many : Nat} {s : FO} {o : OB} (ho : (s.T.m id).out = some o) (hr : (s.T.m id).reset = false) (h21 : ¬ s.room < 21) (hm : min (s.room.toNat - 20) 200 = many) (hok : (dueO (nextO1 s.T (s.T.m id) o many) many).ok = true) :
  pump id (n + 1) s = pump id n ⟨nextT s.T id o many, s.room - (fputL (nextF' s.T id o many)).length, s.l ++ [nextF' s.T id o many], false⟩ := by
 subst hm
 conv => lhs; unfold pump
 rw [ho]
 dsimp only
 rw [if_neg (by rw [hr]; decide), if_neg h21, hok, if_pos rfl]
end Go.Proofs.YtahgidkpjmecdaaGreatDoor
