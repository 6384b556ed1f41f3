/- Parts of the proof: SxA RfA. -/
import Derived.Test.YtolgeghdkoodnaaGreatDoorQ09
import Derived.Test.YtolgeghdkoodnaaGreatDoorQ13
import Derived.Test.YtolgeghdkoodnaaGreatDoorQ25
set_option maxRecDepth 100000
namespace Go.Proofs.YtolgeghdkoodnaaGreatDoor
open Go.RowKit Go.Maps
def Calm (T : Tb) : Prop := FInv T ∧ T.tell = false ∧ ∀ z ∈ T.dom, (T.m z).tR = false ∧ (T.m z).tM = false ∧ ∀ o, (T.m z).out = some o → o.fin = false
def StrmOk (f : Fr) : Prop := f.k = 8 ∧ f.fl = false ∧ rightF f = true ∧ f.rs = [] ∧ f.d.length ≤ 200
def lenF (l : List Fr) : Nat := (l.map fun f => (fputL f).length).sum
theorem lenF_snoc (l : List Fr) (f : Fr) : lenF (l ++ [f]) = lenF l + (fputL f).length := by unfold lenF; simp
structure RmI (dom : List Int) (room : Int) (s : FO) : Prop where
 calm : Calm s.T
 dom : s.T.dom = dom
 pos : 0 ≤ s.room
 sum : (lenF s.l : Int) + s.room = room
 all : ∀ f ∈ s.l, StrmOk f
theorem calm_due {T : Tb} (h : Calm T) {z : Int} (hz : z ∈ T.dom) (id : Nat) : dueL (T.m z) id = [] := by
 obtain ⟨h1, h2, -⟩ := h.2.2 z hz
 unfold dueL
 rw [h1, h2]
 rfl
theorem calm_phase1 {T : Tb} (h : Calm T) (room : Int) : ∀ L : List Int, (∀ z ∈ L, z ∈ T.dom) → phase1 L ⟨T, room, [], false⟩ = ⟨T, room, [], false⟩
 | [], _ => rfl
 | z :: L, hL => by
  show (if (dueStep z.toNat (dueL (T.m z) z.toNat) ⟨T, room, [], false⟩).ret then _ else phase1 L (dueStep z.toNat (dueL (T.m z) z.toNat) ⟨T, room, [], false⟩)) = _
  rw [calm_due h (hL z List.mem_cons_self)]
  exact calm_phase1 h room L (fun y hy => hL y (List.mem_cons_of_mem _ hy))
theorem due_e {o : OB} (h : o.fin = false) (many : Nat) : (dueO o many).e = false := by
 have he : openE o = false := by unfold openE; rw [h]; rfl
 unfold dueO
 rw [he]
 split
 ·rfl
 ·split
  ·rfl
  ·rfl
theorem nextO1_fin (T : Tb) (s : St) (o : OB) (many : Nat) : (nextO1 T s o many).fin = o.fin := by
 unfold nextO1
 split
 ·unfold raiseO
  split <;> rfl
 ·rfl
theorem calm_next {T : Tb} (h : Calm T) {id : Nat} (hz : (id : Int) ∈ T.dom) {o : OB} (ho : (T.m id).out = some o) (many : Nat) : Calm (nextT T id o many) := by
 refine ⟨h.1.next hz ho many, h.2.1, fun z hz2 => ?_⟩
 have hc := h.2.2 z hz2
 show (updM T.m id _ z).tR = false ∧ (updM T.m id _ z).tM = false ∧ ∀ o2, (updM T.m id _ z).out = some o2 → o2.fin = false
 by_cases e : z = id
 ·subst e
  rw [updM_same]
  refine ⟨hc.1, hc.2.1, fun o2 h2 => ?_⟩
  cases h2
  show (nextO1 T (T.m id) o many).fin = false
  rw [nextO1_fin]
  exact hc.2.2 o ho
 ·rw [updM_other e]
  exact hc
theorem calm_pump {dom : List Int} {room : Int} {id : Nat} (hid : (id : Int) ∈ dom) : ∀ (n : Nat) (s : FO), RmI dom room s → RmI dom room (pump id n s)
 | 0, s, h => h
 | n + 1, s, h => by
  have hz : (id : Int) ∈ s.T.dom := by rw [h.dom]; exact hid
  cases ho : (s.T.m id).out with
  | none => rw [pump_none ho]; exact h
  | some o =>
   cases hr : (s.T.m id).reset with
   | true => rw [pump_reset ho hr]; exact h
   | false =>
    by_cases h21 : s.room < 21
    ·rw [pump_full ho hr h21]
     exact ⟨h.calm, h.dom, h.pos, h.sum, h.all⟩
    ·obtain ⟨many, hm⟩ : ∃ many : Nat, min (s.room.toNat - 20) 200 = many := ⟨_, rfl⟩
     have hc := calm_next h.calm hz ho many
     cases hok : (dueO (nextO1 s.T (s.T.m id) o many) many).ok with
     | false =>
      rw [pump_stop ho hr h21 hm hok]
      exact ⟨hc, h.dom, h.pos, h.sum, h.all⟩
     | true =>
      rw [pump_go ho hr h21 hm hok]
      obtain ⟨l1, l2⟩ := h.calm.1.nextF hz ho (many := many) (by omega)
      have e0 : topN = 4611686018427387903 := rfl
      have h1 := (h.calm.1.ids _ hz).2
      have h2 := (h.calm.1.outs _ hz o ho).1
      have h3 := nextB_len (nextO1 s.T (s.T.m id) o many) many
      have h4 := dueO_le (nextO1 s.T (s.T.m id) o many) many
      rw [(nextO1_same s.T (s.T.m id) o many).1] at h4
      have hf : StrmOk (nextF' s.T id o many) := ⟨rfl, due_e (by rw [nextO1_fin]; exact (h.calm.2.2 _ hz).2.2 o ho) many, stream_right (by omega) (by omega) (by omega), rfl, by show (nextB (nextO1 s.T (s.T.m id) o many) many).length ≤ 200; omega⟩
      refine calm_pump hid n _ ⟨hc, h.dom, ?_, ?_, ?_⟩
      ·dsimp only; omega
      ·have := h.sum
       dsimp only
       rw [lenF_snoc]
       push_cast
       omega
      ·intro f hfm
       rcases List.mem_append.1 hfm with e | e
       ·exact h.all f e
       ·rw [List.mem_singleton.1 e]; exact hf
theorem calm_phase3 {dom : List Int} {room : Int} : ∀ (L : List Int) (s : FO), (∀ z ∈ L, z ∈ dom) → RmI dom room s → RmI dom room (phase3 L s)
 | [], s, _, h => h
 | z :: L, s, hL, h => by
  have h0 : z ∈ s.T.dom := by rw [h.dom]; exact hL z List.mem_cons_self
  obtain ⟨id, rfl⟩ := Int.eq_ofNat_of_zero_le (h.calm.1.ids z h0).1
  have h1 := calm_pump (hL _ List.mem_cons_self) (s.room.toNat + 1) s h
  show RmI dom room (if (pump id (s.room.toNat + 1) s).ret then pump id (s.room.toNat + 1) s else phase3 L (pump id (s.room.toNat + 1) s))
  split
  ·exact h1
  ·exact calm_phase3 L _ (fun y hy => hL y (List.mem_cons_of_mem _ hy)) h1
theorem calm_frames {T : Tb} (h : Calm T) {room : Int} (hr : 0 ≤ room) : RmI T.dom room (framesO T room) := by
 have hL : ∀ z ∈ sortI T.dom, z ∈ T.dom := fun z hz => sortI_mem.1 hz
 have h1 := calm_phase1 h room _ hL
 have h2 : phase2 ⟨T, room, [], false⟩ = ⟨{ T with tell := false }, room, [], false⟩ := by
  unfold phase2
  rw [h.2.1, if_neg (by decide)]
 have h3 := framesO_two (L := sortI T.dom) rfl h1 rfl h2
 simp only [Bool.false_eq_true, if_false] at h3
 rw [h3]
 refine calm_phase3 _ _ hL ⟨⟨h.1.tell false, rfl, h.2.2⟩, rfl, hr, ?_, fun f hf => by cases hf⟩
 show ((lenF [] : Nat) : Int) + room = room
 simp [lenF]
theorem calm_write {T : Tb} (h : Calm T) {id : Nat} (hs : ∀ o, (T.m id).out = some o → o.s.length = o.b.length) (data : List UInt8) : Calm (wrT T id data) := by
 unfold wrT
 split
 ·rename_i he
  have h0 : outPartE T id = 0 := by
   unfold wrE at he
   split at he
   ·rename_i h1; exact absurd he h1
   ·rename_i h1; simpa using h1
  obtain ⟨hz, ⟨o, ho⟩, -⟩ := outPartE_zero h0
  have hc := h.2.2 _ hz
  have hou := h.1.outs _ hz o ho
  have hso := hs o ho
  refine ⟨h.1.upd (h.1.small.tops _ hz) (h.1.small.givens _ hz) (h.1.tS _ hz) (fun _ => ⟨writeO o data, by rw [ho]; rfl⟩) (h.1.tM _ hz) (h.1.code _ hz) (h.1.inn _ hz) (fun o2 e => ?_), h.2.1, fun z hz2 => ?_⟩
  ·rw [ho] at e
   cases e
   show (writeO o data).s.length ≤ 2000 ∧ (writeO o data).b.length ≤ 2000
   unfold writeO writeN
   rw [hc.2.2 o ho]
   simp
   omega
  ·show (updM T.m id _ z).tR = false ∧ (updM T.m id _ z).tM = false ∧ ∀ o2, (updM T.m id _ z).out = some o2 → o2.fin = false
   by_cases e : z = id
   ·subst e
    rw [updM_same]
    refine ⟨hc.1, hc.2.1, fun o2 h2 => ?_⟩
    rw [ho] at h2
    cases h2
    show (writeO o data).fin = false
    unfold writeO
    rw [hc.2.2 o ho, if_neg (by decide)]
   ·rw [updM_other e]
    exact h.2.2 z hz2
 ·exact h
def tG1 (p : Pm) : Tb := peerT (newT true p) own0
def tG2 (p : Pm) : Tb := openT (tG1 p) false
def tG3 (p : Pm) : Tb := openT (tG2 p) false
def tG4 (p : Pm) : Tb := openT (tG3 p) true
theorem tG_open (p : Pm) : (openId (tG1 p) false = 0 ∧ (tG1 p).dom = []) ∧ (openId (tG2 p) false = 4 ∧ (tG2 p).dom = [0]) ∧ openId (tG3 p) true = 2 ∧ (tG3 p).dom = [0, 4] := by
 refine ⟨⟨?_, ?_⟩, ⟨?_, ?_⟩, ?_, ?_⟩ <;> kernel_rfl
theorem calm_tG (p : Pm) : Calm (tG4 p) ∧ (tG4 p).dom = [0, 4, 2] := by
 have hd : (tG4 p).dom = [0, 4, 2] := by kernel_rfl
 have e0 : topN = 4611686018427387903 := rfl
 have m0 : (tG4 p).m 0 = { st0 300 with out := some (newO 0), inn := some (newI (min p.s 100000)) } := by kernel_rfl
 have m4 : (tG4 p).m 4 = { st0 300 with out := some (newO 0), inn := some (newI (min p.s 100000)) } := by kernel_rfl
 have m2 : (tG4 p).m 2 = { st0 300 with out := some (newO 0) } := by kernel_rfl
 have f1 : finvS { st0 300 with out := some (newO 0), inn := some (newI (min p.s 100000)) } = true := by
  unfold finvS
  simp only [Bool.and_eq_true, Bool.or_eq_true, Bool.not_eq_true', decide_eq_true_eq]
  refine ⟨⟨⟨⟨⟨⟨⟨Nat.zero_le _, Nat.zero_le _⟩, rfl⟩, .inl rfl⟩, .inl (.inl rfl)⟩, Nat.zero_le _⟩, ?_⟩, rfl⟩
  exact decide_eq_true (show 0 + min p.s 100000 ≤ topN by omega)
 have f2 : finvS { st0 300 with out := some (newO 0) } = true := by kernel_rfl
 refine ⟨⟨finv_of ?_, rfl, fun z hz => ?_⟩, hd⟩
 ·unfold finvB
  rw [hd]
  simp only [List.all_cons, List.all_nil, m0, m4, m2, f1, f2]
  rfl
 ·rw [hd] at hz
  simp only [List.mem_cons, List.not_mem_nil, or_false] at hz
  rcases hz with rfl | rfl | rfl
  ·rw [m0]; exact ⟨rfl, rfl, fun o h => by cases h; rfl⟩
  ·rw [m4]; exact ⟨rfl, rfl, fun o h => by cases h; rfl⟩
  ·rw [m2]; exact ⟨rfl, rfl, fun o h => by cases h; rfl⟩
end Go.Proofs.YtolgeghdkoodnaaGreatDoor
set_option maxRecDepth 100000
namespace Go.Proofs.YtolgeghdkoodnaaGreatDoor
open Go.RowKit
theorem same_c {w : World} {a b : Value} {la lb : List UInt8} (ha : Byts w a la) (hb : Byts w b lb) : Calls Tryz.prog 25 #[a, b] w fun e w' => e = .returned (.bool (decide (la = lb))) ∧ Mod (fun _ => False) w w' := by
 refine (same_any ha hb).mono ?_
 rintro e w' ⟨⟨q, rfl⟩, rfl⟩
 exact ⟨rfl, (Mod.refl _ _).drewN q⟩
set_option maxRecDepth 20000 in
theorem tok_neq (w : World) (t t' : List UInt8) (h : t.length = 16) (h' : t'.length = 16) :
  (binOp .neq 27 (.agg (t.map bv).toArray) (.agg (t'.map bv).toArray)).run Tryz.prog w = .ok (.bool (!decide (t = t'))) w := by
 rw [run_neq_struct, show (10000 : Nat) = 9998 + 2 from rfl, eqTok w 9998 t t' h h']
 rfl
theorem sameF_eq2 (f g : Fr) : sameF f g = (decide (f.k = g.k) && decide ((f.id : Int) = (g.id : Int)) && decide ((f.a : Int) = (g.a : Int)) && decide ((f.b : Int) = (g.b : Int)) && decide ((f.c : Int) = (g.c : Int)) && decide (f.fl = g.fl) && decide (f.t = g.t) && decide (f.d = g.d) && decide (f.rs = g.rs)) := by
 obtain ⟨k, id, a, b, c, fl, d, rs, t⟩ := f
 obtain ⟨k', id', a', b', c', fl', d', rs', t'⟩ := g
 unfold sameF
 rw [Bool.eq_iff_iff]
 simp
 constructor
 ·rintro ⟨rfl, rfl, rfl, rfl, rfl, rfl, rfl, rfl, rfl⟩; simp
 ·rintro ⟨⟨⟨⟨⟨⟨⟨⟨rfl, h1⟩, h2⟩, h3⟩, h4⟩, rfl⟩, rfl⟩, rfl⟩, rfl⟩
  exact ⟨rfl, by omega, by omega, by omega, by omega, rfl, rfl, rfl, rfl⟩
theorem rg_load {w : World} {b o : Nat} {s : Nat × Nat} (h : w.cell? ⟨b, o, none⟩ = some (.int .u64 (s.1 : Int)) ∧ w.cell? ⟨b, o + 1, none⟩ = some (.int .u64 (s.2 : Int))) : (Instr.loadAt 97 (.pointer (some ⟨b, o, none⟩))).run Tryz.prog w = .ok (.agg (rgA s)) w :=
 run_loadAt_mid w b o 97 (rgA s).toList _ (fun j v hv => by
  match j, hv with
  | 0, hv => simp [rgA] at hv; subst hv; exact h.1
  | 1, hv => simp [rgA] at hv; subst hv; exact h.2
  | (_ + 2), hv => simp [rgA] at hv) Tryz.underlying97 rfl (sizeRg _ _)
structure Box2 (w0 w : World) (f g : Fr) (vd vr ud ur : Value) : Prop where
 a : FrB w w0.heap.size f vd vr
 b : FrB w (w0.heap.size + 1) g ud ur
 fv : FrV w f vd vr
 gv : FrV w g ud ur
 m : Mod (fun _ => False) w0 w
theorem Box2.kept {w0 w w' : World} {f g : Fr} {vd vr ud ur : Value} (h : Box2 w0 w f g vd vr ud ur) (hM : Mod (fun _ => False) w w') : Box2 w0 w' f g vd vr ud ur := ⟨h.a.kept hM, h.b.kept hM, h.fv.kept hM, h.gv.kept hM, h.m.trans hM⟩
theorem Box2.made (w : World) {f g : Fr} {vd vr ud ur : Value} (hf : FrV w f vd vr) (hg : FrV w g ud ur) : Box2 w ((w.alloc (.cells (frC f vd vr) 52)).alloc (.cells (frC g ud ur) 52)) f g vd vr ud ur :=
 have hM : Mod (fun _ => False) w ((w.alloc (.cells (frC f vd vr) 52)).alloc (.cells (frC g ud ur) 52)) := ((Mod.refl _ _).alloc _).alloc _
 ⟨(FrB.new w f vd vr hf.t).kept ((Mod.refl _ _).alloc _), ⟨new2 _ _ _ _, hg.t⟩, hf.kept hM, hg.kept hM, hM⟩
set_option maxHeartbeats 16000000 in
set_option maxRecDepth 10000 in
theorem refsame_any {w : World} {f g : Fr} {vd vr ud ur : Value} (hf : FrV w f vd vr) (hg : FrV w g ud ur) (hnn : (f.rs.length : Int) ≤ 100000) (hmm : (g.rs.length : Int) ≤ 100000) :
  Calls Tryz.prog 73 #[frV f vd vr, frV g ud ur] w fun e w' => e = .returned (.bool (sameF f g)) ∧ Mod (fun _ => False) w w' := by
 have HBX := Lib.hid (Box2.made w hf hg)
 have LT := Lib.hid (Box2.made w hf hg).a.loadTok
 have LU := Lib.hid (Box2.made w hf hg).b.loadTok
 have HTN : Hid (∀ X : World, (binOp .neq 27 (.agg (f.t.map bv).toArray) (.agg (g.t.map bv).toArray)).run Tryz.prog X = .ok (.bool (!decide (f.t = g.t))) X) := fun X => tok_neq X _ _ hf.t hg.t
 have HSM := Lib.hid (same_c (Box2.made w hf hg).fv.d (Box2.made w hf hg).gv.d)
 have HRR := Lib.hid (sameF_eq2 f g)
 obtain ⟨da, dc, rfl, _⟩ := byts_val hf.d
 obtain ⟨ra, rc, rfl, _⟩ := rg_val hf.r
 obtain ⟨ea, ec, rfl, _⟩ := byts_val hg.d
 obtain ⟨sa, sc, rfl, _⟩ := rg_val hg.r
 have c0 : (frC f (.slice da f.d.length dc) (.slice ra f.rs.length rc))[0]? = some (.int .i64 f.k) := rfl
 have c1 : (frC f (.slice da f.d.length dc) (.slice ra f.rs.length rc))[1]? = some (.int .u64 (f.id : Int)) := rfl
 have c2 : (frC f (.slice da f.d.length dc) (.slice ra f.rs.length rc))[2]? = some (.int .u64 (f.a : Int)) := rfl
 have c3 : (frC f (.slice da f.d.length dc) (.slice ra f.rs.length rc))[3]? = some (.int .u64 (f.b : Int)) := rfl
 have c4 : (frC f (.slice da f.d.length dc) (.slice ra f.rs.length rc))[4]? = some (.int .u64 (f.c : Int)) := rfl
 have c5 : (frC f (.slice da f.d.length dc) (.slice ra f.rs.length rc))[5]? = some (.bool f.fl) := rfl
 have c6 : (frC f (.slice da f.d.length dc) (.slice ra f.rs.length rc))[6]? = some (.slice da f.d.length dc) := rfl
 have c7 : (frC f (.slice da f.d.length dc) (.slice ra f.rs.length rc))[7]? = some (.slice ra f.rs.length rc) := rfl
 have d0 : (frC g (.slice ea g.d.length ec) (.slice sa g.rs.length sc))[0]? = some (.int .i64 g.k) := rfl
 have d1 : (frC g (.slice ea g.d.length ec) (.slice sa g.rs.length sc))[1]? = some (.int .u64 (g.id : Int)) := rfl
 have d2 : (frC g (.slice ea g.d.length ec) (.slice sa g.rs.length sc))[2]? = some (.int .u64 (g.a : Int)) := rfl
 have d3 : (frC g (.slice ea g.d.length ec) (.slice sa g.rs.length sc))[3]? = some (.int .u64 (g.b : Int)) := rfl
 have d4 : (frC g (.slice ea g.d.length ec) (.slice sa g.rs.length sc))[4]? = some (.int .u64 (g.c : Int)) := rfl
 have d5 : (frC g (.slice ea g.d.length ec) (.slice sa g.rs.length sc))[5]? = some (.bool g.fl) := rfl
 have d6 : (frC g (.slice ea g.d.length ec) (.slice sa g.rs.length sc))[6]? = some (.slice ea g.d.length ec) := rfl
 have d7 : (frC g (.slice ea g.d.length ec) (.slice sa g.rs.length sc))[7]? = some (.slice sa g.rs.length sc) := rfl
 unfold frV
 generalize frC f (.slice da f.d.length dc) (.slice ra f.rs.length rc) = C at *
 generalize frC g (.slice ea g.d.length ec) (.slice sa g.rs.length sc) = D at *
 generalize (f.t.map bv).toArray = TF at *
 generalize (g.t.map bv).toArray = TG at *
 generalize sameF f g = R at *
 obtain ⟨x1, hx1⟩ : ∃ x, (f.id : Int) = x := ⟨_, rfl⟩
 obtain ⟨x2, hx2⟩ : ∃ x, (f.a : Int) = x := ⟨_, rfl⟩
 obtain ⟨x3, hx3⟩ : ∃ x, (f.b : Int) = x := ⟨_, rfl⟩
 obtain ⟨x4, hx4⟩ : ∃ x, (f.c : Int) = x := ⟨_, rfl⟩
 obtain ⟨y1, hy1⟩ : ∃ x, (g.id : Int) = x := ⟨_, rfl⟩
 obtain ⟨y2, hy2⟩ : ∃ x, (g.a : Int) = x := ⟨_, rfl⟩
 obtain ⟨y3, hy3⟩ : ∃ x, (g.b : Int) = x := ⟨_, rfl⟩
 obtain ⟨y4, hy4⟩ : ∃ x, (g.c : Int) = x := ⟨_, rfl⟩
 rw [hx1] at c1
 rw [hx2] at c2
 rw [hx3] at c3
 rw [hx4] at c4
 rw [hy1] at d1
 rw [hy2] at d2
 rw [hy3] at d3
 rw [hy4] at d4
 rw [hx1, hx2, hx3, hx4, hy1, hy2, hy3, hy4] at HRR
 clear hx1 hx2 hx3 hx4 hy1 hy2 hy3 hy4
 obtain ⟨x0, hx0⟩ : ∃ x, f.k = x := ⟨_, rfl⟩
 obtain ⟨y0, hy0⟩ : ∃ x, g.k = x := ⟨_, rfl⟩
 obtain ⟨x5, hx5⟩ : ∃ x, f.fl = x := ⟨_, rfl⟩
 obtain ⟨y5, hy5⟩ : ∃ x, g.fl = x := ⟨_, rfl⟩
 rw [hx0] at c0
 rw [hy0] at d0
 rw [hx5] at c5
 rw [hy5] at d5
 rw [hx0, hy0, hx5, hy5] at HRR
 clear hx0 hy0 hx5 hy5
 obtain ⟨n, hn⟩ : ∃ n, f.rs.length = n := ⟨_, rfl⟩
 obtain ⟨m, hm⟩ : ∃ n, g.rs.length = n := ⟨_, rfl⟩
 have HN := Lib.hid hn
 have HM := Lib.hid hm
 rw [hn] at c7 hnn HBX
 rw [hm] at d7 hmm HBX
 clear hf hg hn hm
 generalize f.d.length = nd at *
 generalize g.d.length = md at *
 by_cases h0 : x0 = y0
 case neg =>
  have hb : (x0 != y0) = true := by simpa using h0
  have HF : Hid (decide (x0 = y0) = false) := decide_eq_false h0
  clear h0
  go_enter Tryz.func73, Tryz.ntmps73
  go_wp2_with (first
   | ((with_reducible refine wpList_load_v 27 (.tmp 47) ?_ ?_ (.pointer (some ⟨w.heap.size, 8, none⟩)) (.agg TF) ?_ LT.out ?_); (· exact rfl); (· exact rfl); (· exact rfl))
   | ((with_reducible refine wpList_load_v 27 (.tmp 49) ?_ ?_ (.pointer (some ⟨w.heap.size + 1, 8, none⟩)) (.agg TG) ?_ LU.out ?_); (· exact rfl); (· exact rfl); (· exact rfl))
   | ((with_reducible refine wpList_eq_g .neq 27 27 (.tmp 48) (.tmp 50) ?_ ?_ TF TG ?_ ?_ tok_guard _ (HTN.out _) ?_); (· exact rfl); (· exact rfl); (· exact rfl); (· exact rfl))
   | fail)
  go_ret
  exact ⟨ret_bool (by rw [HRR.out]; rw [HF.out]; simp), ((Mod.refl _ _).alloc _).alloc _⟩
 subst h0
 by_cases h1 : x1 = y1
 case neg =>
  have hb : (x1 != y1) = true := by simpa using h1
  have HF : Hid (decide (x1 = y1) = false) := decide_eq_false h1
  clear h1
  go_enter Tryz.func73, Tryz.ntmps73
  go_wp2_with (first
   | ((with_reducible refine wpList_load_v 27 (.tmp 47) ?_ ?_ (.pointer (some ⟨w.heap.size, 8, none⟩)) (.agg TF) ?_ LT.out ?_); (· exact rfl); (· exact rfl); (· exact rfl))
   | ((with_reducible refine wpList_load_v 27 (.tmp 49) ?_ ?_ (.pointer (some ⟨w.heap.size + 1, 8, none⟩)) (.agg TG) ?_ LU.out ?_); (· exact rfl); (· exact rfl); (· exact rfl))
   | ((with_reducible refine wpList_eq_g .neq 27 27 (.tmp 48) (.tmp 50) ?_ ?_ TF TG ?_ ?_ tok_guard _ (HTN.out _) ?_); (· exact rfl); (· exact rfl); (· exact rfl); (· exact rfl))
   | fail)
  go_ret
  exact ⟨ret_bool (by rw [HRR.out]; rw [HF.out]; simp), ((Mod.refl _ _).alloc _).alloc _⟩
 subst h1
 by_cases h2 : x2 = y2
 case neg =>
  have hb : (x2 != y2) = true := by simpa using h2
  have HF : Hid (decide (x2 = y2) = false) := decide_eq_false h2
  clear h2
  go_enter Tryz.func73, Tryz.ntmps73
  go_wp2_with (first
   | ((with_reducible refine wpList_load_v 27 (.tmp 47) ?_ ?_ (.pointer (some ⟨w.heap.size, 8, none⟩)) (.agg TF) ?_ LT.out ?_); (· exact rfl); (· exact rfl); (· exact rfl))
   | ((with_reducible refine wpList_load_v 27 (.tmp 49) ?_ ?_ (.pointer (some ⟨w.heap.size + 1, 8, none⟩)) (.agg TG) ?_ LU.out ?_); (· exact rfl); (· exact rfl); (· exact rfl))
   | ((with_reducible refine wpList_eq_g .neq 27 27 (.tmp 48) (.tmp 50) ?_ ?_ TF TG ?_ ?_ tok_guard _ (HTN.out _) ?_); (· exact rfl); (· exact rfl); (· exact rfl); (· exact rfl))
   | fail)
  go_ret
  exact ⟨ret_bool (by rw [HRR.out]; rw [HF.out]; simp), ((Mod.refl _ _).alloc _).alloc _⟩
 subst h2
 by_cases h3 : x3 = y3
 case neg =>
  have hb : (x3 != y3) = true := by simpa using h3
  have HF : Hid (decide (x3 = y3) = false) := decide_eq_false h3
  clear h3
  go_enter Tryz.func73, Tryz.ntmps73
  go_wp2_with (first
   | ((with_reducible refine wpList_load_v 27 (.tmp 47) ?_ ?_ (.pointer (some ⟨w.heap.size, 8, none⟩)) (.agg TF) ?_ LT.out ?_); (· exact rfl); (· exact rfl); (· exact rfl))
   | ((with_reducible refine wpList_load_v 27 (.tmp 49) ?_ ?_ (.pointer (some ⟨w.heap.size + 1, 8, none⟩)) (.agg TG) ?_ LU.out ?_); (· exact rfl); (· exact rfl); (· exact rfl))
   | ((with_reducible refine wpList_eq_g .neq 27 27 (.tmp 48) (.tmp 50) ?_ ?_ TF TG ?_ ?_ tok_guard _ (HTN.out _) ?_); (· exact rfl); (· exact rfl); (· exact rfl); (· exact rfl))
   | fail)
  go_ret
  exact ⟨ret_bool (by rw [HRR.out]; rw [HF.out]; simp), ((Mod.refl _ _).alloc _).alloc _⟩
 subst h3
 by_cases h4 : x4 = y4
 case neg =>
  have hb : (x4 != y4) = true := by simpa using h4
  have HF : Hid (decide (x4 = y4) = false) := decide_eq_false h4
  clear h4
  go_enter Tryz.func73, Tryz.ntmps73
  go_wp2_with (first
   | ((with_reducible refine wpList_load_v 27 (.tmp 47) ?_ ?_ (.pointer (some ⟨w.heap.size, 8, none⟩)) (.agg TF) ?_ LT.out ?_); (· exact rfl); (· exact rfl); (· exact rfl))
   | ((with_reducible refine wpList_load_v 27 (.tmp 49) ?_ ?_ (.pointer (some ⟨w.heap.size + 1, 8, none⟩)) (.agg TG) ?_ LU.out ?_); (· exact rfl); (· exact rfl); (· exact rfl))
   | ((with_reducible refine wpList_eq_g .neq 27 27 (.tmp 48) (.tmp 50) ?_ ?_ TF TG ?_ ?_ tok_guard _ (HTN.out _) ?_); (· exact rfl); (· exact rfl); (· exact rfl); (· exact rfl))
   | fail)
  go_ret
  exact ⟨ret_bool (by rw [HRR.out]; rw [HF.out]; simp), ((Mod.refl _ _).alloc _).alloc _⟩
 subst h4
 by_cases h5 : x5 = y5
 case neg =>
  have hb : (x5 != y5) = true := by simpa using h5
  have HF : Hid (decide (x5 = y5) = false) := decide_eq_false h5
  go_enter Tryz.func73, Tryz.ntmps73
  go_wp2_with (first
   | ((with_reducible refine wpList_load_v 27 (.tmp 47) ?_ ?_ (.pointer (some ⟨w.heap.size, 8, none⟩)) (.agg TF) ?_ LT.out ?_); (· exact rfl); (· exact rfl); (· exact rfl))
   | ((with_reducible refine wpList_load_v 27 (.tmp 49) ?_ ?_ (.pointer (some ⟨w.heap.size + 1, 8, none⟩)) (.agg TG) ?_ LU.out ?_); (· exact rfl); (· exact rfl); (· exact rfl))
   | ((with_reducible refine wpList_eq_g .neq 27 27 (.tmp 48) (.tmp 50) ?_ ?_ TF TG ?_ ?_ tok_guard _ (HTN.out _) ?_); (· exact rfl); (· exact rfl); (· exact rfl); (· exact rfl))
   | fail)
  go_ret
  exact ⟨ret_bool (by rw [HRR.out]; rw [HF.out]; simp), ((Mod.refl _ _).alloc _).alloc _⟩
 subst h5
 generalize htt : decide (f.t = g.t) = tt at *
 have HTT := Lib.hid htt
 clear htt
 cases tt
 case false =>
  go_enter Tryz.func73, Tryz.ntmps73
  go_wp2_with (first
   | ((with_reducible refine wpList_load_v 27 (.tmp 47) ?_ ?_ (.pointer (some ⟨w.heap.size, 8, none⟩)) (.agg TF) ?_ LT.out ?_); (· exact rfl); (· exact rfl); (· exact rfl))
   | ((with_reducible refine wpList_load_v 27 (.tmp 49) ?_ ?_ (.pointer (some ⟨w.heap.size + 1, 8, none⟩)) (.agg TG) ?_ LU.out ?_); (· exact rfl); (· exact rfl); (· exact rfl))
   | ((with_reducible refine wpList_eq_g .neq 27 27 (.tmp 48) (.tmp 50) ?_ ?_ TF TG ?_ ?_ tok_guard _ (HTN.out _) ?_); (· exact rfl); (· exact rfl); (· exact rfl); (· exact rfl))
   | fail)
  go_ret
  exact ⟨ret_bool (by rw [HRR.out]; simp), ((Mod.refl _ _).alloc _).alloc _⟩
 by_cases hnm : n = m
 case neg =>
  have hb : ((n : Int) != (m : Int)) = true := by simp; omega
  have HF : Hid (decide (f.rs = g.rs) = false) := decide_eq_false (fun e => hnm (by rw [← HN.out, ← HM.out, e]))
  clear hnm
  go_enter Tryz.func73, Tryz.ntmps73
  go_wp2_with (first
   | ((with_reducible refine wpList_load_v 27 (.tmp 47) ?_ ?_ (.pointer (some ⟨w.heap.size, 8, none⟩)) (.agg TF) ?_ LT.out ?_); (· exact rfl); (· exact rfl); (· exact rfl))
   | ((with_reducible refine wpList_load_v 27 (.tmp 49) ?_ ?_ (.pointer (some ⟨w.heap.size + 1, 8, none⟩)) (.agg TG) ?_ LU.out ?_); (· exact rfl); (· exact rfl); (· exact rfl))
   | ((with_reducible refine wpList_eq_g .neq 27 27 (.tmp 48) (.tmp 50) ?_ ?_ TF TG ?_ ?_ tok_guard _ (HTN.out _) ?_); (· exact rfl); (· exact rfl); (· exact rfl); (· exact rfl))
   | fail)
  go_ret
  exact ⟨ret_bool (by rw [HRR.out]; rw [HF.out]; simp), ((Mod.refl _ _).alloc _).alloc _⟩
 subst hnm
 generalize hdd : decide (f.d = g.d) = dd at *
 have HDD := Lib.hid hdd
 clear hdd
 cases dd
 case false =>
  go_enter Tryz.func73, Tryz.ntmps73
  go_wp2_with (first
   | ((with_reducible refine wpList_load_v 27 (.tmp 47) ?_ ?_ (.pointer (some ⟨w.heap.size, 8, none⟩)) (.agg TF) ?_ LT.out ?_); (· exact rfl); (· exact rfl); (· exact rfl))
   | ((with_reducible refine wpList_load_v 27 (.tmp 49) ?_ ?_ (.pointer (some ⟨w.heap.size + 1, 8, none⟩)) (.agg TG) ?_ LU.out ?_); (· exact rfl); (· exact rfl); (· exact rfl))
   | ((with_reducible refine wpList_eq_g .neq 27 27 (.tmp 48) (.tmp 50) ?_ ?_ TF TG ?_ ?_ tok_guard _ (HTN.out _) ?_); (· exact rfl); (· exact rfl); (· exact rfl); (· exact rfl))
   | fail)
  refine (HSM.out).mono ?_
  rintro e w1 ⟨rfl, hM1⟩
  go_wp2_with fail
  go_ret
  exact ⟨ret_bool (by rw [HRR.out]; simp), (((Mod.refl _ _).alloc _).alloc _).trans hM1⟩
 go_enter Tryz.func73, Tryz.ntmps73
 go_wp2_with (first
  | ((with_reducible refine wpList_load_v 27 (.tmp 47) ?_ ?_ (.pointer (some ⟨w.heap.size, 8, none⟩)) (.agg TF) ?_ LT.out ?_); (· exact rfl); (· exact rfl); (· exact rfl))
  | ((with_reducible refine wpList_load_v 27 (.tmp 49) ?_ ?_ (.pointer (some ⟨w.heap.size + 1, 8, none⟩)) (.agg TG) ?_ LU.out ?_); (· exact rfl); (· exact rfl); (· exact rfl))
  | ((with_reducible refine wpList_eq_g .neq 27 27 (.tmp 48) (.tmp 50) ?_ ?_ TF TG ?_ ?_ tok_guard _ (HTN.out _) ?_); (· exact rfl); (· exact rfl); (· exact rfl); (· exact rfl))
  | fail)
 refine (HSM.out).mono ?_
 rintro e w1 ⟨rfl, hM1⟩
 have HB1 := Lib.hid (HBX.out.kept hM1)
 have HR2 : Hid (R = decide (f.rs = g.rs)) := by show _ = _; rw [HRR.out]; simp
 clear hM1 HBX LT LU HTN HSM HRR c0 c1 c2 c3 c4 c5 c6 c7 d0 d1 d2 d3 d4 d5 d6 d7 HTT HDD
 have hcc : (n : Int) ≤ rc ∧ (n : Int) ≤ sc := by
  have h1 := HB1.out.fv.r
  have h2 := HB1.out.gv.r
  obtain ⟨_, _, _, e, h, _⟩ := h1
  simp only [Value.slice.injEq] at e
  obtain ⟨_, _, _, e', h', _⟩ := h2
  simp only [Value.slice.injEq] at e'
  obtain ⟨-, e2, e3⟩ := e
  obtain ⟨-, e2', e3'⟩ := e'
  omega
 go_wp2_with fail
 go_loopw [5] (fun s5 wr => ∃ k : Nat, k ≤ n ∧ s5 = .int .i64 k ∧ Hid (Box2 w wr f g (.slice da nd dc) (.slice ra n rc) (.slice ea md ec) (.slice sa n sc)) ∧ Hid (f.rs.take k = g.rs.take k)) (fun s5 _ => n - (intOf s5).toNat)
 case atStart => exact ⟨0, Nat.zero_le _, rfl, HB1, rfl⟩
 case round =>
  clear HB1
  obtain ⟨k, hk, rfl, HB, HJ⟩ := hrel
  have p7 := HB.out.a.cells.2.2.2.2.2.2.2
  by_cases hkn : (k : Int) < n
  ·have hka : k < f.rs.length := by have := HN.out; omega
   have hkb : k < g.rs.length := by have := HM.out; omega
   have hs : f.rs[k]? = some f.rs[k] := List.getElem?_eq_getElem hka
   have ht : g.rs[k]? = some g.rs[k] := List.getElem?_eq_getElem hkb
   generalize f.rs[k] = s at hs
   generalize g.rs[k] = t at ht
   obtain ⟨ba, oa, cpa, hv, _, _, hcs⟩ := rg_addr HB.out.fv.r (by intro e; rw [e] at hka; simp at hka)
   simp only [Value.slice.injEq] at hv
   obtain ⟨rfl, -, rfl⟩ := hv
   obtain ⟨bb, ob, cpb, hv, _, _, hct⟩ := rg_addr HB.out.gv.r (by intro e; rw [e] at hkb; simp at hkb)
   simp only [Value.slice.injEq] at hv
   obtain ⟨rfl, -, rfl⟩ := hv
   have HCS := Lib.hid (hcs k s hs)
   have HCT := Lib.hid (hct k t ht)
   have HS := Lib.hid hs
   have HT := Lib.hid ht
   clear hcs hct hs ht hka hkb
   go_wp2_with fail
   clear p7
   (try go_frame)
   generalize hwr : wr = W at *
   clear hwr
   refine wp_region_held_drew (S := fun X => Mod (fun _ => False) W X) (by kernel_rfl) (Mod.refl _ _).drew (fun hS => ?_)
   generalize hst : decide (s = t) = st
   have HST := Lib.hid hst
   clear hst
   cases st
   ·skip
    refine takeH (i := 0) (v := .pointer (some ⟨w.heap.size, 7, none⟩)) (some 77) rfl rfl (by kernel_rfl) (by kernel_rfl) (by kernel_rfl) (fun _ _ _ h => h) (Or.inl ⟨by rfl, fun X hX => ?_⟩) hS ?_
    ·go_simp
    (try go_frame)
    refine takeH (i := 1) (v := .slice (some ⟨ba, oa, none⟩) n rc) (some 78) rfl rfl (by kernel_rfl) (by kernel_rfl) (by kernel_rfl) (fun _ _ _ h => h) (Or.inl ⟨by rfl, fun X hX => ?_⟩) hS ?_
    ·have p7 := (HB.out.kept hX).a.cells.2.2.2.2.2.2.2; go_simp
    (try go_frame)
    refine takeH (i := 2) (v := .int .i64 (k : Int)) (some 79) rfl rfl (by kernel_rfl) (by kernel_rfl) (by kernel_rfl) (fun _ _ _ h => h) (Or.inl ⟨by rfl, fun X hX => ?_⟩) hS ?_
    ·go_simp
    (try go_frame)
    refine takeH (i := 3) (v := .pointer (some ⟨ba, oa + k * 2, none⟩)) (some 80) rfl rfl (by kernel_rfl) (by kernel_rfl) (by kernel_rfl) (fun _ _ _ h => h) (Or.inl ⟨by rfl, fun X hX => ?_⟩) hS ?_
    ·go_simp
    (try go_frame)
    refine takeH (i := 4) (v := .agg (rgA s)) (some 81) rfl rfl (by kernel_rfl) (by kernel_rfl) (by kernel_rfl) (fun _ _ _ h => h) (Or.inl ⟨by rfl, fun X hX => ?_⟩) hS ?_
    ·exact exec_load' rfl (p := .pointer (some ⟨ba, oa + k * 2, none⟩)) (by rfl) (rg_load ⟨hX.cellAt HCS.out.1 (fun h => h), hX.cellAt HCS.out.2 (fun h => h)⟩)
    (try go_frame)
    refine takeH (i := 5) (v := .pointer (some ⟨w.heap.size + 1, 7, none⟩)) (some 82) rfl rfl (by kernel_rfl) (by kernel_rfl) (by kernel_rfl) (fun _ _ _ h => h) (Or.inl ⟨by rfl, fun X hX => ?_⟩) hS ?_
    ·go_simp
    (try go_frame)
    refine takeH (i := 6) (v := .slice (some ⟨bb, ob, none⟩) n sc) (some 83) rfl rfl (by kernel_rfl) (by kernel_rfl) (by kernel_rfl) (fun _ _ _ h => h) (Or.inl ⟨by rfl, fun X hX => ?_⟩) hS ?_
    ·have p7 := (HB.out.kept hX).b.cells.2.2.2.2.2.2.2; go_simp
    (try go_frame)
    refine takeH (i := 7) (v := .int .i64 (k : Int)) (some 84) rfl rfl (by kernel_rfl) (by kernel_rfl) (by kernel_rfl) (fun _ _ _ h => h) (Or.inl ⟨by rfl, fun X hX => ?_⟩) hS ?_
    ·go_simp
    (try go_frame)
    refine takeH (i := 8) (v := .pointer (some ⟨bb, ob + k * 2, none⟩)) (some 85) rfl rfl (by kernel_rfl) (by kernel_rfl) (by kernel_rfl) (fun _ _ _ h => h) (Or.inl ⟨by rfl, fun X hX => ?_⟩) hS ?_
    ·go_simp
    (try go_frame)
    refine takeH (i := 9) (v := .agg (rgA t)) (some 86) rfl rfl (by kernel_rfl) (by kernel_rfl) (by kernel_rfl) (fun _ _ _ h => h) (Or.inl ⟨by rfl, fun X hX => ?_⟩) hS ?_
    ·exact exec_load' rfl (p := .pointer (some ⟨bb, ob + k * 2, none⟩)) (by rfl) (rg_load ⟨hX.cellAt HCT.out.1 (fun h => h), hX.cellAt HCT.out.2 (fun h => h)⟩)
    (try go_frame)
    refine takeH (i := 10) (v := .bool true) (some 87) rfl rfl (by kernel_rfl) (by kernel_rfl) (by kernel_rfl) (fun _ _ _ h => h) (Or.inl ⟨by rfl, fun X hX => ?_⟩) hS ?_
    ·refine exec_eq (X := rgA s) (Y := rgA t) rfl ?_ ?_ guardRg (by have h := rg_neq X s t; rw [HST.out] at h; exact h) <;> go_simp
    (try go_frame)
    refine wpAnyH_done (by kernel_rfl) ?_ _
    have HB2 := Lib.hid (HB.out.kept hS)
    clear hS
    go_wp2_with fail
    go_ret
    refine ⟨ret_bool ?_, HB2.out.m⟩
    rw [HR2.out]
    symm
    apply decide_eq_false
    intro e
    have h1 := HS.out
    have h2 := HT.out
    rw [e, h2] at h1
    exact (of_decide_eq_false HST.out) (Option.some.inj h1).symm
   ·skip
    refine takeH (i := 0) (v := .pointer (some ⟨w.heap.size, 7, none⟩)) (some 77) rfl rfl (by kernel_rfl) (by kernel_rfl) (by kernel_rfl) (fun _ _ _ h => h) (Or.inl ⟨by rfl, fun X hX => ?_⟩) hS ?_
    ·go_simp
    (try go_frame)
    refine takeH (i := 1) (v := .slice (some ⟨ba, oa, none⟩) n rc) (some 78) rfl rfl (by kernel_rfl) (by kernel_rfl) (by kernel_rfl) (fun _ _ _ h => h) (Or.inl ⟨by rfl, fun X hX => ?_⟩) hS ?_
    ·have p7 := (HB.out.kept hX).a.cells.2.2.2.2.2.2.2; go_simp
    (try go_frame)
    refine takeH (i := 2) (v := .int .i64 (k : Int)) (some 79) rfl rfl (by kernel_rfl) (by kernel_rfl) (by kernel_rfl) (fun _ _ _ h => h) (Or.inl ⟨by rfl, fun X hX => ?_⟩) hS ?_
    ·go_simp
    (try go_frame)
    refine takeH (i := 3) (v := .pointer (some ⟨ba, oa + k * 2, none⟩)) (some 80) rfl rfl (by kernel_rfl) (by kernel_rfl) (by kernel_rfl) (fun _ _ _ h => h) (Or.inl ⟨by rfl, fun X hX => ?_⟩) hS ?_
    ·go_simp
    (try go_frame)
    refine takeH (i := 4) (v := .agg (rgA s)) (some 81) rfl rfl (by kernel_rfl) (by kernel_rfl) (by kernel_rfl) (fun _ _ _ h => h) (Or.inl ⟨by rfl, fun X hX => ?_⟩) hS ?_
    ·exact exec_load' rfl (p := .pointer (some ⟨ba, oa + k * 2, none⟩)) (by rfl) (rg_load ⟨hX.cellAt HCS.out.1 (fun h => h), hX.cellAt HCS.out.2 (fun h => h)⟩)
    (try go_frame)
    refine takeH (i := 5) (v := .pointer (some ⟨w.heap.size + 1, 7, none⟩)) (some 82) rfl rfl (by kernel_rfl) (by kernel_rfl) (by kernel_rfl) (fun _ _ _ h => h) (Or.inl ⟨by rfl, fun X hX => ?_⟩) hS ?_
    ·go_simp
    (try go_frame)
    refine takeH (i := 6) (v := .slice (some ⟨bb, ob, none⟩) n sc) (some 83) rfl rfl (by kernel_rfl) (by kernel_rfl) (by kernel_rfl) (fun _ _ _ h => h) (Or.inl ⟨by rfl, fun X hX => ?_⟩) hS ?_
    ·have p7 := (HB.out.kept hX).b.cells.2.2.2.2.2.2.2; go_simp
    (try go_frame)
    refine takeH (i := 7) (v := .int .i64 (k : Int)) (some 84) rfl rfl (by kernel_rfl) (by kernel_rfl) (by kernel_rfl) (fun _ _ _ h => h) (Or.inl ⟨by rfl, fun X hX => ?_⟩) hS ?_
    ·go_simp
    (try go_frame)
    refine takeH (i := 8) (v := .pointer (some ⟨bb, ob + k * 2, none⟩)) (some 85) rfl rfl (by kernel_rfl) (by kernel_rfl) (by kernel_rfl) (fun _ _ _ h => h) (Or.inl ⟨by rfl, fun X hX => ?_⟩) hS ?_
    ·go_simp
    (try go_frame)
    refine takeH (i := 9) (v := .agg (rgA t)) (some 86) rfl rfl (by kernel_rfl) (by kernel_rfl) (by kernel_rfl) (fun _ _ _ h => h) (Or.inl ⟨by rfl, fun X hX => ?_⟩) hS ?_
    ·exact exec_load' rfl (p := .pointer (some ⟨bb, ob + k * 2, none⟩)) (by rfl) (rg_load ⟨hX.cellAt HCT.out.1 (fun h => h), hX.cellAt HCT.out.2 (fun h => h)⟩)
    (try go_frame)
    refine takeH (i := 10) (v := .bool false) (some 87) rfl rfl (by kernel_rfl) (by kernel_rfl) (by kernel_rfl) (fun _ _ _ h => h) (Or.inl ⟨by rfl, fun X hX => ?_⟩) hS ?_
    ·refine exec_eq (X := rgA s) (Y := rgA t) rfl ?_ ?_ guardRg (by have h := rg_neq X s t; rw [HST.out] at h; exact h) <;> go_simp
    (try go_frame)
    refine wpAnyH_done (by kernel_rfl) ?_ _
    have HB2 := Lib.hid (HB.out.kept hS)
    clear hS
    go_wp2_with fail
    go_roundw
    case rel => exact ⟨k + 1, by omega, by go_num, HB2, (by show _ = _; exact take_eq_step HJ.out HS.out HT.out (of_decide_eq_true HST.out))⟩
    case measure => simp [intOf]; omega
  ·have hkn' : k = n := by omega
   go_wp2_with fail
   go_ret
   refine ⟨ret_bool ?_, HB.out.m⟩
   rw [HR2.out]
   symm
   apply decide_eq_true
   have := HJ.out
   rwa [List.take_of_length_le (by have := HN.out; omega), List.take_of_length_le (by have := HM.out; omega)] at this
end Go.Proofs.YtolgeghdkoodnaaGreatDoor
