/- Parts of the proof: SzG SzH SzI SzJ SuM. -/
import Derived.Test.YtolgeghdkoodnaaGreatDoorP23
import Derived.Test.YtolgeghdkoodnaaGreatDoorPa01
set_option maxRecDepth 100000
namespace Go.Proofs.YtolgeghdkoodnaaGreatDoor
open Go.RowKit Go.Maps
theorem nodup_put {z : Int} {dom : List Int} (h : dom.Nodup) : (putD z dom).Nodup := by
 unfold putD
 split
 ·exact h
 ·rename_i hz
  rw [List.nodup_append]
  refine ⟨h, List.nodup_cons.2 ⟨List.not_mem_nil, List.nodup_nil⟩, fun a ha b hb e => ?_⟩
  rw [List.mem_singleton.1 hb] at e
  exact hz (by rw [← e]; exact ha)
theorem fillK_byte {b : List UInt8} {read off : Nat} {data : List UInt8} {p : List Int × (Int → UInt8)} (hp : ∀ y ∈ p.1, b[y.toNat]? = some (p.2 y)) (hd : ∀ j x, data[j]? = some x → b[off + j]? = some x) : ∀ k, ∀ y ∈ (fillK read off data p k).1, b[y.toNat]? = some ((fillK read off data p k).2 y)
 | 0 => hp
 | k + 1 => by
  have ih := fillK_byte (read := read) hp hd k
  unfold fillK
  cases hx : data[k]? with
  | none => exact ih
  | some c =>
   dsimp only
   unfold stepI
   split
   ·exact ih
   ·rename_i hn
    intro y hy
    dsimp only at hy ⊢
    rcases List.mem_append.1 hy with e | e
    ·rw [if_neg (fun e2 => hn (.inl (by rw [← e2]; exact e)))]
     exact ih y e
    ·rw [List.mem_singleton.1 e, if_pos rfl, Int.toNat_natCast]
     exact hd k c hx
theorem Rcv.put {r : IB} {o : OB} {g : Nat} {rd : List UInt8} (h : Rcv r o g rd) {off : Nat} {data : List UInt8} {last : Bool} (hg : off + data.length ≤ g) (hb : ∀ j x, data[j]? = some x → o.b[off + j]? = some x) (hl : last = true → o.fin = true ∧ off + data.length = o.b.length) : Rcv (putI r off data last) o g rd ∧ (putI r off data last).read = r.read ∧ (putI r off data last).win = r.win := by
 unfold putI
 split
 ·refine ⟨⟨?_, ?_, fun y hy => ?_, fillK_byte h.byte hb _, fun hk => ?_, h.rd⟩, rfl, rfl⟩
  ·have := h.top
   show max r.top (off + data.length) ≤ g
   omega
  ·have := h.le
   show r.read ≤ max r.top (off + data.length)
   omega
  ·have hy2 : y ∈ (fillK r.read off data (r.dom, r.f) data.length).1 := hy
   rw [fillK_mem _ (Nat.le_refl _)] at hy2
   show (r.read : Int) ≤ y ∧ y < ((max r.top (off + data.length) : Nat) : Int)
   rcases hy2 with e | e
   ·have := h.dom y e
    omega
   ·omega
  ·show (if last then off + data.length else r.size) = _ ∧ _
   by_cases e : last = true
   ·rw [if_pos e]
    exact ⟨(hl e).2, (hl e).1⟩
   ·rw [if_neg e]
    have hk2 : (r.known || last) = true := hk
    rw [Bool.or_eq_true] at hk2
    exact h.known (hk2.resolve_right e)
 ·exact ⟨h, rfl, rfl⟩
def updR (rd : Int → List UInt8) (z : Int) (l : List UInt8) : Int → List UInt8 := fun y => if y = z then l else rd y
theorem updR_self (rd : Int → List UInt8) (z : Int) : updR rd z (rd z) = rd := by
 funext y
 unfold updR
 split
 ·rename_i e; rw [e]
 ·rfl
theorem Dir.inT {S R R' : Tb} {pd : Nat} {ids : List Int} {rd : Int → List UInt8} (h : Dir S R pd ids rd) {z : Int} (hz : z ∈ ids) {l : List UInt8} (hd : R'.dom = putD z R.dom) (hm : ∀ y, y ≠ z → R'.m y = R.m y) (ho : R'.own = R.own) (hc : R'.client = R.client) (hr : R.read ≤ R'.read) {r' : IB} (h1 : (R'.m z).over = false) (h2 : (R'.m z).inn = some r') (h3 : r'.win = R.own.s) (h4 : ∀ o, Snd (S.m z) o → Rcv r' o (S.m z).given l) (h5 : (S.m z).max ≤ r'.read + r'.win) : Dir S R' pd ids (updR rd z l) := by
 refine ⟨h.sub, fun y hy => ?_, h.idle, fun y hy hn => ?_, h.gd, ?_, by rw [ho]; exact h.od, by rw [hc, ho]; exact h.mine, h.few, h.nodI, h.nodS, by rw [hd]; exact nodup_put h.nodR⟩
 ·obtain ⟨o, k, l2, l3⟩ := h.link y hy
  by_cases e : y = z
  ·subst e
   refine ⟨o, k, fun _ => ⟨h1, r', h2, by rw [ho]; exact h3, ?_, h5⟩, fun hn => absurd (by rw [hd]; exact mem_putD.2 (.inl rfl)) hn⟩
   unfold updR
   rw [if_pos rfl]
   exact h4 o k
  ·have hi : y ∈ R'.dom ↔ y ∈ R.dom := by
    rw [hd, mem_putD]
    exact ⟨fun h => h.resolve_left e, .inr⟩
   unfold updR
   rw [if_neg e, hm y e, ho]
   exact ⟨o, k, fun hh => l2 (hi.1 hh), fun hh => l3 (fun hh2 => hh (hi.2 hh2))⟩
 ·have e : y ≠ z := fun e => hn (by rw [e]; exact hz)
  rw [hm y e]
  rw [hd] at hy
  exact h.none y ((mem_putD.1 hy).resolve_left e) hn
 ·have := h.dl
  omega
theorem Dir.addS {S S' R : Tb} {pd : Nat} {ids : List Int} {rd : Int → List UInt8} (h : Dir S R pd ids rd) {z : Int} (hz : z ∉ ids) (hd : S'.dom = putD z S.dom) (hm : ∀ y, y ≠ z → S'.m y = S.m y) (hc : S'.client = S.client) (hdt : S'.data = S.data) (hi : idleS (S'.m z)) : Dir S' R pd ids rd := by
 refine ⟨fun y hy => by rw [hd]; exact mem_putD.2 (.inr (h.sub y hy)), fun y hy => ?_, fun y hy hn => ?_, h.none, ?_, by rw [hdt]; exact h.dl, h.od, by rw [hc]; exact h.mine, h.few, h.nodI, by rw [hd]; exact nodup_put h.nodS, h.nodR⟩
 ·rw [hm y (fun e => hz (by rw [← e]; exact hy))]
  exact h.link y hy
 ·by_cases e : y = z
  ·rw [e]; exact hi
  ·rw [hm y e]
   rw [hd] at hy
   exact h.idle y ((mem_putD.1 hy).resolve_left e) hn
 ·rw [hdt]
  refine Nat.le_trans ?_ h.gd
  unfold givenN
  rw [hd]
  refine sumOn_sub _ _ _ _ (nodup_put h.nodS) (fun y hy => ?_)
  by_cases e : y = z
  ·rw [e]; exact .inl hi.1
  ·rw [hm y e]
   exact .inr ⟨(mem_putD.1 hy).resolve_left e, Nat.le_refl _⟩
theorem len_sub {l m : List Int} (hn : l.Nodup) (h : ∀ y ∈ l, y ∈ m) : l.length ≤ m.length := by
 have e : ∀ l : List Int, sumOn (fun _ => 1) l = l.length := fun l => by
  induction l with
  | nil => rfl
  | cons y l ih => rw [sumOn_cons, ih, List.length_cons]; omega
 have := sumOn_sub (fun _ => 1) (fun _ => 1) l m hn (fun y hy => .inr ⟨h y hy, Nat.le_refl _⟩)
 rw [e, e] at this
 exact this
theorem Good.put {T T' : Tb} (h : Good T) {z : Int} (hd : T'.dom = putD z T.dom) (hm : ∀ y, y ≠ z → T'.m y = T.m y) (hl : T'.dom.length ≤ lenMax) (hz : 0 ≤ z ∧ z ≤ 1000000) (hr : T'.read ≤ 2000000000) (h1 : topS (T'.m z) ≤ 1000000) (h2 : (T'.m z).given ≤ 1000000) (h3 : (T'.m z).tS = false) (h4 : (T'.m z).tR = false) (h5 : ∃ o, (T'.m z).inn = some o ∧ o.read + o.win ≤ topN) (h6 : (T'.m z).code ≤ topN) (h8 : ∀ o, (T'.m z).out = some o → o.s.length ≤ 2000 ∧ o.b.length ≤ 2000) (h9 : (T'.m z).reset = false) (h10 : (T'.m z).over = false) : Good T' := by
 have hc : ∀ (P : Int → St → Prop), P z (T'.m z) → (∀ y ∈ T.dom, P y (T.m y)) → ∀ y ∈ T'.dom, P y (T'.m y) := fun P hs hT y hy => by
  by_cases e : y = z
  ·rw [e]; exact hs
  ·rw [hm y e]
   rw [hd] at hy
   exact hT y ((mem_putD.1 hy).resolve_left e)
 obtain ⟨o, ho, hw⟩ := h5
 have e0 : lenMax = 12 := rfl
 exact ⟨⟨⟨by omega, hc (fun _ s => topS s ≤ 1000000) h1 h.1.small.tops, hc (fun _ s => s.given ≤ 1000000) h2 h.1.small.givens, hr⟩, hl, hc (fun y _ => 0 ≤ y ∧ y ≤ 1000000) hz h.1.ids, hc (fun _ s => s.tS = false) h3 h.1.tS, hc (fun _ s => s.tR = true → ∃ o, s.out = some o) (fun e => by rw [h4] at e; cases e) h.1.tR, hc (fun _ s => s.tM = true → s.over = false → ∃ o, s.inn = some o) (fun _ _ => ⟨o, ho⟩) h.1.tM, hc (fun _ s => s.code ≤ topN) h6 h.1.code, hc (fun _ s => ∀ o, s.inn = some o → o.read + o.win ≤ topN) (fun o2 e => by rw [ho] at e; cases e; exact hw) h.1.inn, hc (fun _ s => ∀ o, s.out = some o → o.s.length ≤ 2000 ∧ o.b.length ≤ 2000) h8 h.1.outs⟩, hc (fun _ s => s.reset = false ∧ s.over = false ∧ s.tR = false) ⟨h9, h10, h4⟩ h.2⟩
theorem Dir.apart {A B : Tb} {pa pb : Nat} {ia ib : List Int} {ra rb : Int → List UInt8} (h1 : Dir A B pb ia ra) (h2 : Dir B A pa ib rb) : ∀ z ∈ ia, z ∉ ib := by
 intro z hz hn
 have a := (h1.mine z hz).2.2.1
 have b := (h2.mine z hn).2.1
 rw [a] at b
 cases b
theorem Pair.doms {A B : Tb} {pa pb : Nat} {ia ib : List Int} {ra rb : Int → List UInt8} (h : Pair A B pa pb ia ib ra rb) {z : Int} (hz : z ∈ ia) : (putD z B.dom).length ≤ lenMax := by
 have := len_sub (l := putD z B.dom) (m := ib ++ ia) (nodup_put h.ab.nodR) (fun y hy => List.mem_append.2 (by
  rcases mem_putD.1 hy with e | e
  ·rw [e]; exact .inr hz
  ·exact h.db y e))
 rw [List.length_append] at this
 have := h.ab.few
 have := h.ba.few
 show _ ≤ 12
 omega
theorem putD_has {z : Int} {dom : List Int} (h : z ∈ dom) : putD z dom = dom := by unfold putD; rw [if_pos h]
def atT (T : Tb) (id : Nat) : St := if (id : Int) ∈ T.dom then T.m id else newS T id
theorem comeT_facts (T : Tb) (id off : Nat) (data : List UInt8) (last : Bool) : (comeT T id off data last).dom = putD (id : Int) T.dom ∧ (∀ y, y ≠ (id : Int) → (comeT T id off data last).m y = T.m y) ∧ (comeT T id off data last).m id = { atT T id with inn := some (putI (inO T id) off data last) } ∧ (comeT T id off data last).own = T.own ∧ (comeT T id off data last).client = T.client ∧ (comeT T id off data last).read = T.read ∧ (comeT T id off data last).data = T.data := by
 unfold comeT atT
 by_cases hd : (id : Int) ∈ T.dom
 ·rw [if_pos hd, if_pos hd]
  exact ⟨(putD_has hd).symm, fun y hy => updM_other hy, updM_same _ _ _, rfl, rfl, rfl, rfl⟩
 ·rw [if_neg hd, if_neg hd]
  refine ⟨rfl, fun y hy => ?_, ?_, rfl, rfl, rfl, rfl⟩
  ·show updM (mkT T id).m id _ y = _
   rw [updM_other hy]
   exact updM_other hy
  ·show updM (mkT T id).m id _ id = _
   rw [updM_same]
   show ({ updM T.m id (newS T id) id with inn := _ } : St) = _
   rw [updM_same]
theorem Pair.come {A B : Tb} {pa pb : Nat} {ia ib : List Int} {ra rb : Int → List UInt8} (h : Pair A B pa pb ia ib ra rb) (hw : B.own.s ≤ 100000) {f : Fr} (hf : FrOk A ia f) : Pair A (comeT B f.id f.a f.d f.fl) pa pb ia ib ra rb := by
 obtain ⟨-, hz, -, -, o2, ho2, hE, hb, hfl⟩ := hf
 obtain ⟨o, k, rc, hmx, hin, hwin⟩ := h.ab.inn hz
 have e : o2 = o := by have := k.out; rw [ho2] at this; exact Option.some.inj this
 subst e
 obtain ⟨c1, c2, c3, c4, c5, c6, c7⟩ := comeT_facts B f.id f.a f.d f.fl
 obtain ⟨p1, p2, p3⟩ := rc.put hE hb hfl
 have hap := h.ab.apart h.ba _ hz
 have hat : (atT B f.id).over = false ∧ (atT B f.id).given ≤ 1000000 ∧ (atT B f.id).tS = false ∧ (atT B f.id).tR = false ∧ (atT B f.id).code ≤ topN ∧ (∀ o, (atT B f.id).out = some o → o.s.length ≤ 2000 ∧ o.b.length ≤ 2000) ∧ (atT B f.id).reset = false ∧ idleS (atT B f.id) := by
  unfold atT
  by_cases hd : (f.id : Int) ∈ B.dom
  ·rw [if_pos hd]
   obtain ⟨g1, g2, g3⟩ := h.gb.2 _ hd
   exact ⟨g2, h.gb.1.small.givens _ hd, h.gb.1.tS _ hd, g3, h.gb.1.code _ hd, h.gb.1.outs _ hd, g1, h.ba.idle _ hd hap⟩
  ·rw [if_neg hd]
   have hout : ∀ o, (newS B f.id).out = some o → o = newO 0 := fun o ho => by
    have : (if hasOut B f.id then some (newO 0) else none) = some o := ho
    split at this
    ·exact (Option.some.inj this).symm
    ·cases this
   exact ⟨rfl, Nat.zero_le _, rfl, rfl, Nat.zero_le _, fun o ho => by rw [hout o ho]; exact ⟨Nat.zero_le _, Nat.zero_le _⟩, rfl, rfl, fun o ho => by rw [hout o ho]; exact ⟨rfl, rfl, rfl, rfl⟩⟩
 obtain ⟨t1, t2, t3, t4, t5, t6, t7, t8⟩ := hat
 have k1 := k.glen
 have k2 := k.most
 have hab := h.ab.inT hz (l := ra f.id) (R' := comeT B f.id f.a f.d f.fl) c1 c2 c4 c5 (by rw [c6]; exact Nat.le_refl _) (r' := putI (inO B f.id) f.a f.d f.fl) (by rw [c3]; exact t1) (by rw [c3]) (by rw [p3]; exact hwin) (fun o ho => by
  have e : o = o2 := by have := ho.out; rw [ho2] at this; exact (Option.some.inj this).symm
  rw [e]; exact p1) (by rw [p2, p3]; exact hmx)
 rw [updR_self] at hab
 refine ⟨hab, h.ba.addS hap c1 c2 c5 c7 (by rw [c3]; exact t8), h.ga, h.gb.put c1 c2 (by rw [c1]; exact h.doms hz) (h.ga.1.ids _ (h.ab.sub _ hz)) (by rw [c6]; exact h.gb.1.small.read) ?_ (by rw [c3]; exact t2) (by rw [c3]; exact t3) (by rw [c3]; exact t4) ⟨_, by rw [c3], ?_⟩ (by rw [c3]; exact t5) (by rw [c3]; exact t6) (by rw [c3]; exact t7) (by rw [c3]; exact t1), h.ta, fun y hy ht => ?_, h.da, fun y hy => ?_⟩
 ·have := p1.top
  unfold topS
  rw [c3]
  show (putI (inO B f.id) f.a f.d f.fl).top ≤ _
  omega
 ·have := p1.le
  have := p1.top
  rw [p3, hwin]
  have e0 : topN = 4611686018427387903 := rfl
  omega
 ·by_cases e : y = (f.id : Int)
  ·rw [e]; exact hz
  ·rw [c2 y e] at ht
   rw [c1] at hy
   exact h.tb y ((mem_putD.1 hy).resolve_left e) ht
 ·rw [c1] at hy
  rcases mem_putD.1 hy with e | e
  ·rw [e]; exact .inr hz
  ·exact h.db y e
end Go.Proofs.YtolgeghdkoodnaaGreatDoor
set_option maxRecDepth 100000
namespace Go.Proofs.YtolgeghdkoodnaaGreatDoor
open Go.RowKit Go.Maps
theorem Good.same {T T' : Tb} (h : Good T) (hd : T'.dom = T.dom) (hr : T'.read = T.read) (hm : ∀ y, (T'.m y).inn = (T.m y).inn ∧ (T'.m y).out = (T.m y).out ∧ (T'.m y).given = (T.m y).given ∧ (T'.m y).tS = (T.m y).tS ∧ (T'.m y).tR = (T.m y).tR ∧ (T'.m y).tM = (T.m y).tM ∧ (T'.m y).over = (T.m y).over ∧ (T'.m y).code = (T.m y).code ∧ (T'.m y).reset = (T.m y).reset) : Good T' := by
 refine ⟨⟨⟨by rw [hd]; exact h.1.small.len, fun z hz => ?_, fun z hz => ?_, by rw [hr]; exact h.1.small.read⟩, by rw [hd]; exact h.1.len, by rw [hd]; exact h.1.ids, fun z hz => ?_, fun z hz => ?_, fun z hz => ?_, fun z hz => ?_, fun z hz => ?_, fun z hz => ?_⟩, fun z hz => ?_⟩ <;> rw [hd] at hz <;> obtain ⟨m1, m2, m3, m4, m5, m6, m7, m8, m9⟩ := hm z
 ·unfold topS; rw [m1]; exact h.1.small.tops z hz
 ·rw [m3]; exact h.1.small.givens z hz
 ·rw [m4]; exact h.1.tS z hz
 ·rw [m5, m2]; exact h.1.tR z hz
 ·rw [m6, m7, m1]; exact h.1.tM z hz
 ·rw [m8]; exact h.1.code z hz
 ·rw [m1]; exact h.1.inn z hz
 ·rw [m2]; exact h.1.outs z hz
 ·rw [m9, m7, m5]; exact h.2 z hz
theorem Pair.limit {A B : Tb} {pa pb : Nat} {ia ib : List Int} {ra rb : Int → List UInt8} (h : Pair A B pa pb ia ib ra rb) {id a : Nat} (hz : (id : Int) ∈ ib) (hd : (id : Int) ∈ A.dom) {r : IB} (hr : (A.m id).inn = some r) (ha : a = r.read + r.win) : Pair A (limitT B id a) pa pb ia ib ra rb := by
 have hs : ∀ y, ((limitT B id a).m y).inn = (B.m y).inn ∧ ((limitT B id a).m y).out = (B.m y).out ∧ ((limitT B id a).m y).given = (B.m y).given ∧ ((limitT B id a).m y).tS = (B.m y).tS ∧ ((limitT B id a).m y).tR = (B.m y).tR ∧ ((limitT B id a).m y).tM = (B.m y).tM ∧ ((limitT B id a).m y).over = (B.m y).over ∧ ((limitT B id a).m y).code = (B.m y).code ∧ ((limitT B id a).m y).reset = (B.m y).reset := fun y => by
  have e0 : (limitT B id a).m y = updM B.m id { B.m id with max := max (B.m id).max a } y := rfl
  rw [e0]
  by_cases e : y = id
  ·rw [e, updM_same]; exact ⟨rfl, rfl, rfl, rfl, rfl, rfl, rfl, rfl, rfl⟩
  ·rw [updM_other e]; exact ⟨rfl, rfl, rfl, rfl, rfl, rfl, rfl, rfl, rfl⟩
 refine ⟨h.ab.congrR rfl rfl rfl rfl (fun y => ⟨(hs y).1, (hs y).2.2.2.2.2.2.1⟩), ?_, h.ga, h.gb.same rfl rfl hs, h.ta, fun y hy ht => h.tb y hy (by rw [← (hs y).2.2.2.2.2.1]; exact ht), h.da, h.db⟩
 obtain ⟨o, k, l2, -⟩ := h.ba.link _ hz
 obtain ⟨c1, r2, c2, c3, c4, c5⟩ := l2 hd
 rw [hr] at c2
 cases c2
 refine h.ba.updS hz (s' := { B.m id with max := max (B.m id).max a }) ⟨o, ⟨k.out, k.len, k.most, k.sent, k.lim, ?_, k.glen, k.e, k.rst⟩, fun _ => ⟨c1, r, hr, c3, c4, ?_⟩, fun hn => absurd hd hn⟩ ?_
 ·have := k.gmax
  show (B.m id).given ≤ max (B.m id).max a
  omega
 ·show max (B.m id).max a ≤ _
  omega
 ·have e := givenN_same (S := B) (z := (id : Int)) (s' := { B.m id with max := max (B.m id).max a }) rfl
  exact e ▸ h.ba.gd
theorem Pair.data {A B : Tb} {pa pb : Nat} {ia ib : List Int} {ra rb : Int → List UInt8} (h : Pair A B pa pb ia ib ra rb) {a : Nat} (ha : a ≤ A.read + A.own.d) : Pair A { B with data := max B.data a } pa pb ia ib ra rb := by
 refine ⟨h.ab.congrR rfl rfl rfl rfl (fun y => ⟨rfl, rfl⟩), ⟨h.ba.sub, h.ba.link, h.ba.idle, h.ba.none, ?_, ?_, h.ba.od, h.ba.mine, h.ba.few, h.ba.nodI, h.ba.nodS, h.ba.nodR⟩, h.ga, h.gb.same rfl rfl (fun y => ⟨rfl, rfl, rfl, rfl, rfl, rfl, rfl, rfl, rfl⟩), h.ta, h.tb, h.da, h.db⟩
 ·have := h.ba.gd
  show givenN B ≤ max B.data a
  omega
 ·have := h.ba.dl
  have := h.ba.od
  show max B.data a ≤ _
  omega
theorem cnt_in {dom : List Int} : ∀ (m read j : Nat), j < cntI dom read m → ((read + j : Nat) : Int) ∈ dom
 | 0, _, j, h => absurd h (Nat.not_lt_zero j)
 | m + 1, read, j, h => by
  have h2 : j < if (read : Int) ∈ dom then cntI dom (read + 1) m + 1 else 0 := h
  split at h2
  ·rename_i hr
   cases j with
   | zero => simpa using hr
   | succ j =>
    have := cnt_in (dom := dom) m (read + 1) j (by omega)
    rwa [show read + (j + 1) = read + 1 + j by omega]
  ·omega
theorem Rcv.read {r : IB} {o : OB} {g : Nat} {rd : List UInt8} (h : Rcv r o g rd) (hg : g ≤ o.b.length) (n : Int) : Rcv (readI r n) o g (rd ++ readB r n) ∧ (readI r n).win = r.win ∧ (readI r n).read = r.read + (readB r n).length ∧ (readI r n).read ≤ r.top := by
 have hl : (readB r n).length = readCnt r n := rowB_len _ _
 have hin : ∀ j, j < readCnt r n → ((r.read + j : Nat) : Int) ∈ r.dom := fun j hj => cnt_in _ _ _ hj
 have hle : r.read + readCnt r n ≤ r.top := by
  rcases Nat.eq_zero_or_pos (readCnt r n) with e | e
  ·have := h.le; omega
  ·have := (h.dom _ (hin (readCnt r n - 1) (by omega))).2
   omega
 have ht := h.top
 refine ⟨⟨h.top, hle, fun y hy => ?_, fun y hy => ?_, h.known, ?_⟩, rfl, by rw [hl]; rfl, hle⟩
 ·have hy2 : y ∈ delK r.dom r.read (readCnt r n) := hy
  rw [delK_mem] at hy2
  have := h.dom y hy2.1
  show ((r.read + readCnt r n : Nat) : Int) ≤ y ∧ y < (r.top : Int)
  omega
 ·have hy2 : y ∈ delK r.dom r.read (readCnt r n) := hy
  rw [delK_mem] at hy2
  exact h.byte y hy2.1
 ·show rd ++ readB r n = o.b.take (r.read + readCnt r n)
  rw [h.rd]
  apply List.ext_getElem?
  intro i
  have hrl : (o.b.take r.read).length = r.read := by rw [List.length_take]; omega
  by_cases h1 : i < r.read
  ·rw [List.getElem?_append_left (by omega), List.getElem?_take, List.getElem?_take, if_pos h1, if_pos (by omega)]
  ·rw [List.getElem?_append_right (by omega), hrl, List.getElem?_take]
   by_cases h2 : i < r.read + readCnt r n
   ·rw [if_pos h2]
    have hb := h.byte _ (hin (i - r.read) (by omega))
    rw [Int.toNat_natCast, show r.read + (i - r.read) = i by omega] at hb
    rw [hb]
    unfold readB rowB
    rw [List.getElem?_map, List.getElem?_range (by omega)]
    show some (r.f ((r.read + (i - r.read) : Nat) : Int)) = _
    rw [show r.read + (i - r.read) = i by omega]
   ·rw [if_neg h2, List.getElem?_eq_none (by omega)]
theorem rdT_facts (T : Tb) (id : Nat) (n : Int) (h : inPartE T id = 0) : (rdT T id n).dom = T.dom ∧ (∀ y, y ≠ (id : Int) → (rdT T id n).m y = T.m y) ∧ ((rdT T id n).m id = rdS (T.m id) (readI (inOf T id) n) (rdB T id n).length) ∧ (rdT T id n).own = T.own ∧ (rdT T id n).client = T.client ∧ (rdT T id n).data = T.data ∧ (rdT T id n).read = T.read + (rdB T id n).length := by
 unfold rdT
 rw [if_pos h]
 split
 ·rename_i e
  rw [e]
  exact ⟨rfl, fun y hy => updM_other hy, updM_same _ _ _, rfl, rfl, rfl, rfl⟩
 ·exact ⟨rfl, fun y hy => updM_other hy, updM_same _ _ _, rfl, rfl, rfl, rfl⟩
theorem rdS_facts (s : St) (o : IB) (k : Nat) : (rdS s o k).inn = some o ∧ (rdS s o k).out = s.out ∧ (rdS s o k).given = s.given ∧ (rdS s o k).over = s.over ∧ (rdS s o k).reset = s.reset ∧ (rdS s o k).tS = s.tS ∧ (rdS s o k).tR = s.tR ∧ (rdS s o k).code = s.code := by
 unfold rdS
 split <;> exact ⟨rfl, rfl, rfl, rfl, rfl, rfl, rfl, rfl⟩
theorem Pair.read {A B : Tb} {pa pb : Nat} {ia ib : List Int} {ra rb : Int → List UInt8} (h : Pair A B pa pb ia ib ra rb) {id : Nat} (hz : (id : Int) ∈ ia) (n : Int) (hr : B.read ≤ 1000000) (hw : B.own.s ≤ 100000) : Pair A (rdT B id n) pa pb ia ib (updR ra id (ra id ++ rdB B id n)) rb ∧ (rdT B id n).read ≤ B.read + 2000 := by
 by_cases hE : inPartE B id = 0
 ·have hd : (id : Int) ∈ B.dom := by
   unfold inPartE at hE
   split at hE
   ·rename_i hc; exact hc.1
   ·cases hE
  obtain ⟨o, k, l2, -⟩ := h.ab.link _ hz
  obtain ⟨a1, r, a2, a3, a4, a5⟩ := l2 hd
  have hin : inOf B id = r := by unfold inOf; rw [a2]; rfl
  have hB : rdB B id n = readB r n := by unfold rdB; rw [if_pos hE, hin]
  obtain ⟨f1, f2, f3, f4, f5, f6, f7⟩ := rdT_facts B id n hE
  rw [hB, hin] at f3
  rw [hB] at f7
  obtain ⟨s1, s2, s3, s4, s5, s6, s7, s8⟩ := rdS_facts (B.m id) (readI r n) (readB r n).length
  rw [← f3] at s1 s2 s3 s4 s5 s6 s7 s8
  obtain ⟨r1, r2, r3, r4⟩ := a4.read k.glen n
  have k1 := k.glen
  have k2 := k.most
  have t1 := a4.top
  have hap := h.ab.apart h.ba _ hz
  obtain ⟨g1, g2, g3⟩ := h.gb.2 _ hd
  have hwin := h.gb.1.inn _ hd r a2
  refine ⟨?_, by rw [f7]; omega⟩
  rw [hB]
  have hab := h.ab.inT hz (l := ra id ++ readB r n) (R' := rdT B id n) (by rw [f1, putD_has hd]) f2 f4 f5 (by rw [f7]; omega) (by rw [s4]; exact a1) s1 (by rw [r2]; exact a3) (fun o2 k3 => by
   have e : o2 = o := by have := k.out; rw [k3.out] at this; exact Option.some.inj this
   rw [e]; exact r1) (by rw [r2, r3]; omega)
  refine ⟨hab, h.ba.addS hap (by rw [f1, putD_has hd]) f2 f5 f6 ?_, h.ga, h.gb.put (by rw [f1, putD_has hd]) f2 (by rw [f1]; exact h.gb.1.len) (h.gb.1.ids _ hd) (by rw [f7]; omega) ?_ (by rw [s3]; exact h.gb.1.small.givens _ hd) (by rw [s6]; exact h.gb.1.tS _ hd) (by rw [s7]; exact g3) ⟨_, s1, ?_⟩ (by rw [s8]; exact h.gb.1.code _ hd) (by rw [s2]; exact h.gb.1.outs _ hd) (by rw [s5]; exact g1) (by rw [s4]; exact g2), h.ta, fun y hy ht => ?_, h.da, by rw [f1]; exact h.db⟩
  ·obtain ⟨i1, i2⟩ := h.ba.idle _ hd hap
   exact ⟨by rw [s3]; exact i1, by rw [s2]; exact i2⟩
  ·unfold topS
   rw [s1]
   show r.top ≤ _
   omega
  ·rw [r2]
   have e0 : topN = 4611686018427387903 := rfl
   have := a3
   omega
  ·by_cases e : y = (id : Int)
   ·rw [e]; exact hz
   ·rw [f2 y e] at ht
    rw [f1] at hy
    exact h.tb y hy ht
 ·have e1 : rdT B id n = B := by unfold rdT; rw [if_neg hE]
  have e2 : rdB B id n = [] := by unfold rdB; rw [if_neg hE]
  rw [e1, e2, List.append_nil, updR_self]
  exact ⟨h, by omega⟩
end Go.Proofs.YtolgeghdkoodnaaGreatDoor
set_option maxRecDepth 100000
namespace Go.Proofs.YtolgeghdkoodnaaGreatDoor
open Go.RowKit Go.Maps
def takeA (T : Tb) (f : Fr) : Tb := if f.k = 8 then comeT T f.id f.a f.d f.fl else if f.k = 17 then limitT T f.id f.a else { T with data := max T.data f.a }
theorem Pair.take {A B : Tb} {pa pb : Nat} {ia ib : List Int} {ra rb : Int → List UInt8} (h : Pair A B pa pb ia ib ra rb) (hw : B.own.s ≤ 100000) {f : Fr} (hf : FAny A ia ib f) : Pair A (takeA B f) pa pb ia ib ra rb := by
 unfold takeA
 rcases hf with e | ⟨h1, h2, h3, -, -, -, r, h7, h8⟩ | ⟨h1, -, -, -, -, h6⟩
 ·rw [if_pos e.1]
  exact h.come hw e
 ·rw [if_neg (by rw [h1]; decide), if_pos h1]
  exact h.limit h2 h3 h7 h8
 ·rw [if_neg (by rw [h1]; decide), if_neg (by rw [h1]; decide)]
  exact h.data h6
theorem Cnt.put {T T' : Tb} {K K' : Kn} (h : Cnt T K) {z : Int} (hm : ∀ y, y ≠ z → T'.m y = T.m y) (hN : K.N ≤ K'.N) (hi : K'.ia = K.ia) (hw : ∀ y, y ≠ z → K'.wr y = K.wr y) (hd : ∀ y ∈ T.dom, y ∈ T'.dom) (hr : T'.read ≤ K'.N) (ht : (T'.m z).taken ≤ K'.N) (ho : z ∈ K.ia → z ∈ T.dom → ∀ o, (T.m z).out = some o → o.b = K.wr z → ∃ o', (T'.m z).out = some o' ∧ o'.b = K'.wr z) : Cnt T' K' := by
 refine ⟨hr, fun y => ?_, fun y hy => ?_⟩
 ·by_cases e : y = z
  ·rw [e]; exact ht
  ·rw [hm y e]; exact Nat.le_trans (h.2.1 y) hN
 ·rw [hi] at hy
  obtain ⟨h1, o, h2, h3⟩ := h.2.2 y hy
  refine ⟨hd y h1, ?_⟩
  by_cases e : y = z
  ·subst e; exact ho hy h1 o h2 h3
  ·rw [hm y e, hw y e]; exact ⟨o, h2, h3⟩
theorem Cnt.take {T : Tb} {K : Kn} (h : Cnt T K) (f : Fr) : Cnt (takeA T f) K := by
 unfold takeA
 split
 ·obtain ⟨c1, c2, c3, -, -, c6, -⟩ := comeT_facts T f.id f.a f.d f.fl
  refine h.put (K' := K) c2 (Nat.le_refl _) rfl (fun _ _ => rfl) (fun y hy => by rw [c1]; exact mem_putD.2 (.inr hy)) (by rw [c6]; exact h.1) ?_ (fun _ hd o ho hb => ⟨o, ?_, hb⟩)
  ·rw [c3]
   unfold atT
   show ({ (if (f.id : Int) ∈ T.dom then T.m f.id else newS T f.id) with inn := _ } : St).taken ≤ K.N
   split
   ·exact h.2.1 _
   ·exact Nat.zero_le _
  ·rw [c3]
   unfold atT
   show ({ (if (f.id : Int) ∈ T.dom then T.m f.id else newS T f.id) with inn := _ } : St).out = some o
   rw [if_pos hd]
   exact ho
 ·split
  ·exact h.upd rfl (fun o ho => ⟨o, ho, rfl⟩)
  ·exact h
def wrK (K : Kn) (id : Nat) (l : List UInt8) : Kn := { K with wr := updR K.wr id (K.wr id ++ l) }
theorem Cnt.write {T : Tb} {K : Kn} (h : Cnt T K) (id : Nat) (data : List UInt8) (hz : (id : Int) ∈ K.ia) : Cnt (wrT T id data) (wrK K id (data.take (wrN T id data))) := by
 obtain ⟨hd, o, ho, hb⟩ := h.2.2 _ hz
 have hw : ∀ y, y ≠ (id : Int) → (wrK K id (data.take (wrN T id data))).wr y = K.wr y := fun y hy => if_neg hy
 have hws : (wrK K id (data.take (wrN T id data))).wr id = K.wr id ++ data.take (wrN T id data) := if_pos rfl
 by_cases hE : wrE T id = 0
 ·have e1 : wrT T id data = { T with m := updM T.m id { T.m id with out := (T.m id).out.map (fun o => writeO o data) } } := by unfold wrT; rw [if_pos hE]
  have e2 : wrN T id data = writeN o data := by unfold wrN; rw [if_pos hE, ho]; rfl
  rw [e1]
  refine h.put (K' := wrK K id (data.take (wrN T id data))) (fun y hy => updM_other hy) (Nat.le_refl _) rfl hw (fun y hy => hy) h.1 (by show (updM T.m id _ id).taken ≤ K.N; rw [updM_same]; exact h.2.1 id) (fun _ _ o2 h2 h3 => ⟨writeO o data, ?_, ?_⟩)
  ·show (updM T.m id _ id).out = _
   rw [updM_same]
   show (T.m id).out.map _ = _
   rw [ho]
   rfl
  ·rw [hws, e2, ← hb]
   unfold writeO writeN
   split
   ·simp
   ·rfl
 ·have e1 : wrT T id data = T := by unfold wrT; rw [if_neg hE]
  have e2 : wrN T id data = 0 := by unfold wrN; rw [if_neg hE]
  have e3 : wrK K id (data.take (wrN T id data)) = K := by
   unfold wrK
   rw [e2, List.take_zero, List.append_nil, updR_self]
  rw [e1, e3]
  exact h
theorem Cnt.finish {T : Tb} {K : Kn} (h : Cnt T K) (id : Nat) : Cnt (fnT T id) K := by
 unfold fnT
 split
 ·exact h.upd rfl (fun o ho => ⟨{ o with fin := true }, by show (T.m id).out.map _ = _; rw [ho]; rfl, rfl⟩)
 ·exact h
theorem Cnt.acked {T : Tb} {K : Kn} (h : Cnt T K) (f : Fr) : Cnt (ackT T f) K := by
 unfold ackT
 split
 ·exact h
 ·rename_i o ho
  unfold outOf at ho
  split at ho
  ·split
   ·exact h.upd rfl (fun o2 h2 => by rw [ho] at h2; cases h2; exact ⟨_, rfl, rfl⟩)
   ·split
    ·exact h.upd rfl (fun o2 h2 => ⟨o2, h2, rfl⟩)
    ·exact h
  ·cases ho
theorem Cnt.lost {T : Tb} {K : Kn} (h : Cnt T K) (f : Fr) : Cnt (lostT T f) K := by
 have hs : ∀ k b, Cnt { T with m := updM T.m f.id (setTell (T.m f.id) k b) } K := fun k b => h.upd (setTell_taken _ _ _) (fun o ho => ⟨o, by rw [(setTell_out (T.m f.id) k b).1]; exact ho, rfl⟩)
 unfold lostT
 repeat' split
 all_goals first | exact h | exact hs _ _ | (rename_i hc; exact h.upd rfl (fun o2 h2 => ⟨_, rfl, by rw [h2]; rfl⟩))
theorem Cnt.read {T : Tb} {K : Kn} (h : Cnt T K) (id : Nat) (n : Int) {k : Nat} (hk : (rdB T id n).length ≤ k) : Cnt (rdT T id n) { K with N := K.N + k } := by
 have h0 : Cnt T { K with N := K.N + k } := ⟨Nat.le_trans h.1 (Nat.le_add_right _ _), fun y => Nat.le_trans (h.2.1 y) (Nat.le_add_right _ _), h.2.2⟩
 by_cases hE : inPartE T id = 0
 ·obtain ⟨f1, f2, f3, -, -, -, f7⟩ := rdT_facts T id n hE
  have h1 := h.1
  have h2 := h.2.1 id
  obtain ⟨s1, s2, -⟩ := rdS_facts (T.m id) (readI (inOf T id) n) (rdB T id n).length
  refine h.put (K' := { K with N := K.N + k }) f2 (Nat.le_add_right _ _) rfl (fun _ _ => rfl) (fun y hy => by rw [f1]; exact hy) (by rw [f7]; show _ ≤ K.N + k; omega) ?_ (fun _ _ o ho hb => ⟨o, by rw [f3, s2]; exact ho, hb⟩)
  rw [f3]
  unfold rdS
  split
  ·show (T.m id).taken ≤ K.N + k; omega
  ·show (T.m id).taken + _ ≤ K.N + k; omega
 ·have e1 : rdT T id n = T := by unfold rdT; rw [if_neg hE]
  rw [e1]; exact h0
theorem Pair.readLen {A B : Tb} {pa pb : Nat} {ia ib : List Int} {ra rb : Int → List UInt8} (h : Pair A B pa pb ia ib ra rb) {id : Nat} (hz : (id : Int) ∈ ia) (n : Int) : (rdB B id n).length ≤ 2000 := by
 by_cases hE : inPartE B id = 0
 ·have hd : (id : Int) ∈ B.dom := by
   unfold inPartE at hE
   split at hE
   ·rename_i hc; exact hc.1
   ·cases hE
  obtain ⟨o, k, l2, -⟩ := h.ab.link _ hz
  obtain ⟨a1, r, a2, a3, a4, a5⟩ := l2 hd
  have hin : inOf B id = r := by unfold inOf; rw [a2]; rfl
  have hB : rdB B id n = readB r n := by unfold rdB; rw [if_pos hE, hin]
  obtain ⟨r1, r2, r3, r4⟩ := a4.read k.glen n
  have k1 := k.glen
  have k2 := k.most
  have t1 := a4.top
  rw [hB]
  omega
 ·have e2 : rdB B id n = [] := by unfold rdB; rw [if_neg hE]
  rw [e2]; exact Nat.zero_le _
theorem takeA_s {W w : World} (l : List Th) {tb mb : Nat} {G : Int → SM} {A B : Tb} {m : List Th} (h : At W w (l ++ tabTh W.heap.size tb mb G B :: m)) {pa pb : Nat} {ia ib : List Int} {ra rb : Int → List UInt8} (hp : Pair A B pa pb ia ib ra rb) {f : Fr} (hf : FAny A ia ib f) {vd vr : Value} (hv : FrV w f vd vr) :
  Calls Tryz.prog 17 #[.pointer (some ⟨tb, 0, none⟩), .agg (frC f vd vr)] w fun e w' => e = .returned (.int .i64 0) ∧ ∃ G', At W w' (l ++ tabTh W.heap.size tb mb G' (takeA B f) :: m) := by
 have q : TBuf W.heap.size w tb mb G B := h.get l
 rcases hf with e | ⟨h1, h2, h3, -, -, -, r, h7, h8⟩ | ⟨h1, -, -, -, -, h6⟩
 ·have hi := hp.ga.1.ids _ (hp.ab.sub _ e.2.1)
  have := take8_s l h hv e.1 (by omega) hp.gb.1.small (hp.ab.comeOk e)
  unfold takeA
  rw [if_pos e.1]
  exact this
 ·have n8 : f.k ≠ 8 := by rw [h1]; decide
  have n4 : f.k ≠ 4 := by rw [h1]; decide
  unfold takeA
  rw [if_neg n8, if_pos h1]
  have hi := hp.ga.1.ids _ h3
  have hd := hp.ba.sub _ h2
  have hwin := hp.ga.1.inn _ h3 r h7
  have e0 : topN = 4611686018427387903 := rfl
  refine (take_by q hv.t (.inr (.inr (.inl h1))) (n := 44) (by rw [if_neg n8, if_neg n4, if_pos h1]) (T' := limitT B f.id f.a) (fun w1 hM => ?_)).mono fun _ _ ⟨he, hc⟩ => ⟨he, h.tab l hc⟩
  refine takeLimit_any (q.still hM) hv.t (by unfold okId; omega) hd ?_ (by unfold nat64; omega)
  obtain ⟨m0, m1, m2, m3⟩ := hp.ba.mine _ h2
  rw [Int.toNat_natCast] at m1 m2
  unfold findE
  rw [m1, if_neg (by simp), if_pos hd]
 ·have n8 : f.k ≠ 8 := by rw [h1]; decide
  have n4 : f.k ≠ 4 := by rw [h1]; decide
  have n17 : f.k ≠ 17 := by rw [h1]; decide
  unfold takeA
  rw [if_neg n8, if_neg n17]
  refine (take_by q hv.t (.inr (.inr (.inr h1))) (n := 45) (by rw [if_neg n8, if_neg n4, if_neg n17]) (T' := { B with data := max B.data f.a }) (fun w1 hM => ?_)).mono fun _ _ ⟨he, hc⟩ => ⟨he, h.tab l hc⟩
  refine takeData_any (q.still hM) hv.t ?_
  have := hp.ga.1.small.read
  have := hp.ba.od
  unfold nat64
  omega
theorem FAny.id {A B : Tb} {pa pb : Nat} {ia ib : List Int} {ra rb : Int → List UInt8} (hp : Pair A B pa pb ia ib ra rb) {f : Fr} (hf : FAny A ia ib f) : okId f.id := by
 have e : f.id ≤ 1000000 := by
  rcases hf with e | e | e
  ·have := hp.ga.1.ids _ (hp.ab.sub _ e.2.1); omega
  ·have := hp.ga.1.ids _ e.2.2.1; omega
  ·rw [e.2.1]; exact Nat.zero_le _
 unfold okId
 omega
theorem FAny.len {A B : Tb} {pa pb : Nat} {ia ib : List Int} {ra rb : Int → List UInt8} (hp : Pair A B pa pb ia ib ra rb) {f : Fr} (hf : FAny A ia ib f) : f.d.length ≤ 1000000 := by
 rcases hf with ⟨-, hz, -, -, o, ho, hE, -⟩ | e | e
 ·obtain ⟨o2, k, -⟩ := hp.ab.link _ hz
  have := k.glen
  have := k.most
  omega
 ·rw [e.2.2.2.2.2.1]; exact Nat.zero_le _
 ·rw [e.2.2.2.2.1]; exact Nat.zero_le _
theorem FAny.k5 {A : Tb} {ia ib : List Int} {f : Fr} (hf : FAny A ia ib f) : f.k ≠ 5 := by rcases hf with e | e | e <;> (rw [e.1]; decide)
theorem lost_s {W w : World} (l : List Th) {tb mb : Nat} {G : Int → SM} {T : Tb} {m : List Th} (h : At W w (l ++ tabTh W.heap.size tb mb G T :: m)) {f : Fr} {vd vr : Value} (hf : FrV w f vd vr) (hi : okId f.id) (hdl : f.d.length ≤ 1000000000) (hk5 : f.k ≠ 5) :
  Calls Tryz.prog 23 #[.pointer (some ⟨tb, 0, none⟩), .agg (frC f vd vr)] w fun e w' => e = .returned (.tuple #[]) ∧ ∃ G', At W w' (l ++ tabTh W.heap.size tb mb G' (lostT T f) :: m) :=
 (tlost_any (h.get l) hf hi hdl hk5).mono fun _ _ ⟨he, hc⟩ => ⟨he, h.tab l hc⟩
theorem finish_s {W w : World} (l : List Th) {tb mb : Nat} {G : Int → SM} {T : Tb} {m : List Th} (h : At W w (l ++ tabTh W.heap.size tb mb G T :: m)) {id : Nat} (hi : okId id) :
  Calls Tryz.prog 22 #[.pointer (some ⟨tb, 0, none⟩), .int .u64 (id : Int)] w fun e w' => (∃ x, e = .returned x) ∧ ∃ G', At W w' (l ++ tabTh W.heap.size tb mb G' (fnT T id) :: m) :=
 (tfinish_any (h.get l) hi).mono fun _ _ ⟨he, hc⟩ => ⟨⟨_, he⟩, h.tab l hc⟩
end Go.Proofs.YtolgeghdkoodnaaGreatDoor
set_option maxRecDepth 100000
namespace Go.Proofs.YtolgeghdkoodnaaGreatDoor
open Go.RowKit Go.Maps
theorem kind_ltz (c b : Bool) : kindN c b < 4 := by cases c <;> cases b <;> decide
theorem kind_injz {c b b' : Bool} (h : kindN c b = kindN c b') : b = b' := by cases c <;> cases b <;> cases b' <;> first | rfl | (exact absurd h (by decide))
theorem op_setz (T : Tb) (k v : Nat) (hk : k < 4) (k' : Nat) (hk' : k' < 4) : opN (setOp T k v) k' = if k' = k then v else opN T k' := by
 obtain rfl | rfl | rfl | rfl : k = 0 ∨ k = 1 ∨ k = 2 ∨ k = 3 := by omega
 all_goals (obtain rfl | rfl | rfl | rfl : k' = 0 ∨ k' = 1 ∨ k' = 2 ∨ k' = 3 := by omega) <;> rfl
theorem setOp_same (T : Tb) (k v : Nat) : (setOp T k v).client = T.client ∧ (setOp T k v).dom = T.dom ∧ (∀ b, limN (setOp T k v) b = limN T b) ∧ (setOp T k v).own = T.own ∧ (setOp T k v).data = T.data ∧ (setOp T k v).stream = T.stream ∧ (setOp T k v).read = T.read ∧ (setOp T k v).m = T.m := by
 unfold setOp
 split
 ·exact ⟨rfl, rfl, fun _ => rfl, rfl, rfl, rfl, rfl, rfl⟩
 ·split
  ·exact ⟨rfl, rfl, fun _ => rfl, rfl, rfl, rfl, rfl, rfl⟩
  ·split
   ·exact ⟨rfl, rfl, fun _ => rfl, rfl, rfl, rfl, rfl, rfl⟩
   ·exact ⟨rfl, rfl, fun _ => rfl, rfl, rfl, rfl, rfl, rfl⟩
def NewS (w mx : Nat) (s : St) : Prop := s = { st0 mx with out := some (newO 0), inn := s.inn } ∧ ∀ r, s.inn = some r → r = newI w
structure Ini (c : Bool) (p q : Pm) (T : Tb) : Prop where
 client : T.client = c
 own : T.own = cutP p
 data : T.data = q.d
 stream : T.stream = q.s
 read : T.read = 0
 lim : ∀ b, limN T b = min q.n 40
 nod : T.dom.Nodup
 st : ∀ z ∈ T.dom, NewS (cutP p).s q.s (T.m z)
 taken : ∀ y, (T.m y).taken = 0
 old : ∀ z ∈ T.dom, ∃ b j, z = ((4 * j + kindN c b : Nat) : Int) ∧ j < opN T (kindN c b) ∧ j < min q.n 40
theorem Ini.start (c : Bool) {p q : Pm} (hq : mayB q = true) : Ini c p q (peerT (newT c p) q) := by
 have e : peerT (newT c p) q = maxT (limT { newT c p with data := max (newT c p).data q.d, stream := max (newT c p).stream q.s } (min q.n 40) 2) (max (newT c p).stream q.s) (newT c p).dom := by unfold peerT; rw [if_pos hq]
 have e2 : (newT c p).dom = [] := rfl
 rw [e, e2, maxT_nil]
 refine ⟨rfl, rfl, Nat.zero_max _, Nat.zero_max _, rfl, fun b => ?_, List.nodup_nil, fun z hz => (by cases hz), fun y => rfl, fun z hz => (by cases hz)⟩
 cases b
 ·exact Nat.zero_max _
 ·exact Nat.zero_max _
theorem Ini.fresh {c : Bool} {p q : Pm} {T : Tb} (h : Ini c p q T) (b : Bool) : (openId T b : Int) ∉ T.dom := by
 intro hz
 obtain ⟨b', j, e, hj, -⟩ := h.old _ hz
 have e1 : openId T b = 4 * opN T (kindN c b) + kindN c b := by unfold openId; rw [h.client]
 rw [e1] at e
 have k1 := kind_ltz c b
 have k2 := kind_ltz c b'
 have e2 : 4 * opN T (kindN c b) + kindN c b = 4 * j + kindN c b' := by omega
 have e3 : kindN c b = kindN c b' := by omega
 have := kind_injz e3
 subst this
 omega
theorem mine_id (c b : Bool) (j : Nat) : mineB c (4 * j + kindN c b) = true := by
 unfold mineB
 have : (4 * j + kindN c b) % 2 = kindN c b % 2 := by omega
 rw [this]
 cases c <;> cases b <;> decide
theorem Ini.opened {c : Bool} {p q : Pm} {T : Tb} (h : Ini c p q T) (b : Bool) : Ini c p q (openT T b) ∧ ((opE T b = 0 ∧ (openT T b).dom = T.dom ++ [(openV T b : Int)]) ∨ (opE T b = 5 ∧ openT T b = T)) := by
 cases hok : openOk T b with
 | false =>
  have e : openT T b = T := by unfold openT; rw [hok]; rfl
  have e2 : opE T b = 5 := by unfold opE; rw [hok]; rfl
  rw [e]
  exact ⟨h, .inr ⟨e2, rfl⟩⟩
 | true =>
  have hlt : opN T (kindN c b) < min q.n 40 := by
   unfold openOk at hok
   rw [h.client, h.lim] at hok
   exact of_decide_eq_true hok
  have e0 : openT T b = mkT (setOp T (kindN T.client b) (opN T (kindN T.client b) + 1)) (openId T b) := by unfold openT; rw [if_pos hok]
  have e1 : openId T b = 4 * opN T (kindN c b) + kindN c b := by unfold openId; rw [h.client]
  have e2 : opE T b = 0 := by unfold opE; rw [hok]; rfl
  have e3 : openV T b = openId T b := by unfold openV; rw [if_pos hok]
  have hf := h.fresh b
  obtain ⟨s1, s2, s3, s4, s5, s6, s7, s8⟩ := setOp_same T (kindN T.client b) (opN T (kindN T.client b) + 1)
  have hd : (openT T b).dom = T.dom ++ [(openId T b : Int)] := by
   rw [e0]
   show putD _ (setOp T _ _).dom = _
   rw [s2]
   unfold putD
   rw [if_neg hf]
  have hm : (openT T b).m = updM T.m (openId T b) (newS (setOp T (kindN T.client b) (opN T (kindN T.client b) + 1)) (openId T b)) := by
   rw [e0]
   show updM (setOp T _ _).m _ _ = _
   rw [s8]
  have hns : NewS (cutP p).s q.s (newS (setOp T (kindN T.client b) (opN T (kindN T.client b) + 1)) (openId T b)) := by
   refine ⟨?_, fun r hr => ?_⟩
   ·unfold newS hasOut
    rw [s1, s6, h.client, h.stream, e1, mine_id]
    rfl
   ·have hr2 : (if hasIn (setOp T (kindN T.client b) (opN T (kindN T.client b) + 1)) (openId T b) then some (newI (setOp T (kindN T.client b) (opN T (kindN T.client b) + 1)).own.s) else none) = some r := hr
    rw [s4, h.own] at hr2
    split at hr2
    ·exact (Option.some.inj hr2).symm
    ·cases hr2
  refine ⟨⟨?_, ?_, ?_, ?_, ?_, fun x => ?_, ?_, fun z hz => ?_, fun y => ?_, fun z hz => ?_⟩, .inl ⟨e2, by rw [hd, e3]⟩⟩
  ·rw [e0]; exact s1.trans h.client
  ·rw [e0]; exact s4.trans h.own
  ·rw [e0]; exact s5.trans h.data
  ·rw [e0]; exact s6.trans h.stream
  ·rw [e0]; exact s7.trans h.read
  ·rw [e0]; exact (s3 x).trans (h.lim x)
  ·rw [hd, List.nodup_append]
   refine ⟨h.nod, List.nodup_cons.2 ⟨List.not_mem_nil, List.nodup_nil⟩, fun a ha b' hb e => ?_⟩
   rw [List.mem_singleton.1 hb] at e
   exact hf (by rw [← e]; exact ha)
  ·rw [hm]
   by_cases e : z = (openId T b : Int)
   ·rw [e, updM_same]; exact hns
   ·rw [updM_other e]
    rw [hd] at hz
    exact h.st z ((List.mem_append.1 hz).resolve_right (fun e2 => e (List.mem_singleton.1 e2)))
  ·rw [hm]
   by_cases e : y = (openId T b : Int)
   ·rw [e, updM_same]; rfl
   ·rw [updM_other e]; exact h.taken y
  ·have hop : ∀ x, opN (openT T b) (kindN c x) = if x = b then opN T (kindN c b) + 1 else opN T (kindN c x) := fun x => by
    rw [e0, h.client]
    show opN (setOp T (kindN c b) (opN T (kindN c b) + 1)) (kindN c x) = _
    rw [op_setz _ _ _ (kind_ltz c b) _ (kind_ltz c x)]
    by_cases e : x = b
    ·subst e; rw [if_pos rfl, if_pos rfl]
    ·rw [if_neg (fun e2 => e (kind_injz e2)), if_neg e]
   rw [hd] at hz
   rcases List.mem_append.1 hz with e | e
   ·obtain ⟨b', j, e2, hj, hj2⟩ := h.old z e
    refine ⟨b', j, e2, ?_, hj2⟩
    rw [hop]
    split
    ·rename_i e3; subst e3; omega
    ·exact hj
   ·refine ⟨b, opN T (kindN c b), by rw [List.mem_singleton.1 e, e1], ?_, hlt⟩
    rw [hop, if_pos rfl]
    omega
theorem mine_not (c : Bool) (id : Nat) (h : mineB c id = true) : mineB (!c) id = false := by
 unfold mineB at *
 cases c <;> cases e : (id % 2 == 0) <;> simp_all
theorem Ini.mine {c : Bool} {p q : Pm} {T : Tb} (h : Ini c p q T) {z : Int} (hz : z ∈ T.dom) : 0 ≤ z ∧ z ≤ 1000000 ∧ mineB c z.toNat = true ∧ z / 4 < (q.n : Int) := by
 obtain ⟨b, j, rfl, -, hj⟩ := h.old z hz
 have := kind_ltz c b
 refine ⟨by omega, by omega, by rw [Int.toNat_natCast]; exact mine_id c b j, by omega⟩
theorem Ini.dir {c : Bool} {p q : Pm} {A B : Tb} (h : Ini c p q A) (k : Ini (!c) q p B) (hl : A.dom.length ≤ 3) (hs : q.s ≤ 5000) : Dir A B q.d A.dom (fun _ => []) := by
 have hg : givenN A = 0 := by
  have := sumOn_sub (fun y => (A.m y).given) (fun _ => 0) A.dom [] h.nod (fun y hy => .inl (by show (A.m y).given = 0; rw [(h.st y hy).1]; rfl))
  exact Nat.le_zero.1 this
 refine ⟨fun _ hz => hz, fun z hz => ?_, fun y hy hn => absurd hy hn, fun y hy hn => ?_, by rw [hg]; exact Nat.zero_le _, by rw [h.data, k.read]; omega, by rw [k.own]; rfl, fun z hz => ?_, hl, h.nod, h.nod, k.nod⟩
 ·refine ⟨newO 0, ?_, fun hd => ?_, fun _ => ⟨rfl, ?_⟩⟩
  ·rw [(h.st z hz).1]
   exact ⟨rfl, rfl, Nat.zero_le _, fun i x hx => by simp [newO] at hx, Nat.le_refl _, Nat.zero_le _, Nat.le_refl _, fun e => absurd rfl e, rfl⟩
  ·have a := (h.mine hz).2.2.1
   have b := (k.mine hd).2.2.1
   rw [mine_not c _ a] at b
   cases b
  ·rw [(h.st z hz).1, k.own]
   show q.s ≤ min q.s 100000
   omega
 ·unfold topS
  cases e : (B.m y).inn with
  | none => rfl
  | some r => rw [(k.st y hy).2 r e]; rfl
 ·obtain ⟨a1, -, a2, a3⟩ := h.mine hz
  rw [h.client, k.client, k.own]
  exact ⟨a1, a2, mine_not c _ a2, a3⟩
theorem Ini.good {c : Bool} {p q : Pm} {T : Tb} (h : Ini c p q T) (hl : T.dom.length ≤ 3) : Good T := by
 have e0 : topN = 4611686018427387903 := rfl
 have e1 : lenMax = 12 := rfl
 refine ⟨⟨⟨by omega, fun z hz => ?_, fun z hz => ?_, by rw [h.read]; omega⟩, by omega, fun z hz => ?_, fun z hz => ?_, fun z hz => ?_, fun z hz => ?_, fun z hz => ?_, fun z hz r e => ?_, fun z hz o e => ?_⟩, fun z hz => ?_⟩
 ·unfold topS
  cases e : (T.m z).inn with
  | none => exact Nat.zero_le _
  | some r => rw [(h.st z hz).2 r e]; exact Nat.zero_le _
 ·rw [(h.st z hz).1]; exact Nat.zero_le _
 ·have := h.mine hz; omega
 ·rw [(h.st z hz).1]; rfl
 ·intro e; rw [(h.st z hz).1] at e; cases e
 ·intro e; rw [(h.st z hz).1] at e; cases e
 ·rw [(h.st z hz).1]; exact Nat.zero_le _
 ·rw [(h.st z hz).2 r e]
  show 0 + min p.s 100000 ≤ _
  omega
 ·rw [(h.st z hz).1] at e
  cases e
  exact ⟨Nat.zero_le _, Nat.zero_le _⟩
 ·rw [(h.st z hz).1]; exact ⟨rfl, rfl, rfl⟩
theorem Ini.pair {p q : Pm} {A B : Tb} (h : Ini true p q A) (k : Ini false q p B) (ha : A.dom.length ≤ 3) (hb : B.dom.length ≤ 3) (hp : p.s ≤ 5000) (hq : q.s ≤ 5000) : Pair A B p.d q.d A.dom B.dom (fun _ => []) (fun _ => []) := by
 refine ⟨h.dir k ha hq, k.dir h hb hp, h.good ha, k.good hb, fun z hz e => ?_, fun z hz e => ?_, fun z hz => .inl hz, fun z hz => .inl hz⟩
 ·rw [(h.st z hz).1] at e; cases e
 ·rw [(k.st z hz).1] at e; cases e
theorem Ini.cnt {c : Bool} {p q : Pm} {T : Tb} (h : Ini c p q T) : Cnt T ⟨0, T.dom, fun _ => []⟩ := ⟨by rw [h.read]; exact Nat.le_refl _, fun y => by rw [h.taken]; exact Nat.le_refl _, fun y hy => ⟨hy, newO 0, by rw [(h.st y hy).1], rfl⟩⟩
end Go.Proofs.YtolgeghdkoodnaaGreatDoor
set_option maxRecDepth 100000
namespace Go.Proofs.YtolgeghdkoodnaaGreatDoor
open Go.RowKit Go.Maps
inductive Star (T : Tb) : Tb → Prop
 | refl : Star T T
 | next {S : Tb} (h : Star T S) (id : Nat) (o : OB) (many : Nat) (hz : (id : Int) ∈ S.dom) (ho : (S.m id).out = some o) : Star T (nextT S id o many)
 | tell {S : Tb} (h : Star T S) : Star T { S with tell := false }
def openB (x : UInt8) : Bool := x == 0 || x == 2
def leftO (o : OB) : Nat := o.s.countP openB + (if openB o.e then 1 else 0)
theorem count_le (p : UInt8 → Bool) : ∀ (s s' : List UInt8), s'.length = s.length → (∀ (i : Nat) (x y : UInt8), s[i]? = some x → s'[i]? = some y → p y = true → p x = true) → s'.countP p ≤ s.countP p ∧ ((∃ (i : Nat) (x y : UInt8), s[i]? = some x ∧ s'[i]? = some y ∧ p x = true ∧ p y = false) → s'.countP p < s.countP p)
 | [], [], _, _ => ⟨Nat.le_refl _, fun ⟨i, x, y, h, _⟩ => by simp at h⟩
 | [], y :: s', h, _ => by simp at h
 | x :: s, [], h, _ => by simp at h
 | x :: s, y :: s', h, hp => by
  have ih := count_le p s s' (by simpa using h) (fun i a b h1 h2 => hp (i + 1) a b (by simpa using h1) (by simpa using h2))
  have h0 := hp 0 x y rfl rfl
  have e1 : (x :: s).countP p = s.countP p + if p x then 1 else 0 := by rw [List.countP_cons]
  have e2 : (y :: s').countP p = s'.countP p + if p y then 1 else 0 := by rw [List.countP_cons]
  have hle : (if p y then 1 else 0) ≤ (if p x then 1 else 0) := by
   cases hy : p y with
   | false => exact Nat.zero_le _
   | true => rw [h0 hy]; exact Nat.le_refl _
  rw [e1, e2]
  refine ⟨by omega, fun ⟨i, a, b, h1, h2, h3, h4⟩ => ?_⟩
  cases i with
  | zero =>
   simp only [List.getElem?_cons_zero, Option.some.injEq] at h1 h2
   subst h1 h2
   rw [h3, h4]
   simp
   omega
  | succ i =>
   have := ih.2 ⟨i, a, b, by simpa using h1, by simpa using h2, h3, h4⟩
   omega
theorem runO_has {s : List UInt8} {st : UInt8} {top many : Nat} {p : Nat × Nat} (h : runO s st top many = some p) (hm : 1 ≤ many) : p.1 < p.2 ∧ s[p.1]? = some st := by
 unfold runO at h
 split at h
 ·cases h
 ·rename_i hn
  cases h
  obtain ⟨k, hk⟩ := Int.eq_ofNat_of_zero_le (by omega : 0 ≤ Lib.indexByte (s.take top) st)
  have h1 := (Lib.indexByte_some hk).1
  rw [List.getElem?_take] at h1
  split at h1
  ·rename_i hlt
   have := (runL_more (s := s) (st := st) (top := top) (many := many) (k := k) (j := 0) (Nat.zero_le _)).2 ⟨hlt, hm, h1⟩
   rw [hk]
   dsimp only
   rw [Int.toNat_natCast]
   exact ⟨by omega, h1⟩
  ·cases h1
theorem left_map (a t : Nat) (s : List UInt8) : (mapR (fun _ => 1) a t s).countP openB ≤ s.countP openB ∧ (∀ x, a < t → s[a]? = some x → openB x = true → (mapR (fun _ => 1) a t s).countP openB < s.countP openB) := by
 have h := count_le openB s (mapR (fun _ => 1) a t s) (mapR_len _ _ _ _) (fun i x y h1 h2 hy => by
  rw [mapR_get, h1, Option.map_some] at h2
  have e := Option.some.inj h2
  by_cases hc : a ≤ i ∧ i < t
  ·rw [if_pos hc] at e
   rw [← e] at hy
   cases hy
  ·rw [if_neg hc] at e
   rw [e]; exact hy)
 refine ⟨h.1, fun x hat hx ho => h.2 ⟨a, x, 1, hx, ?_, ho, rfl⟩⟩
 rw [mapR_get, hx, Option.map_some, if_pos ⟨Nat.le_refl _, hat⟩]
theorem left_next {o : OB} {many : Nat} (hm : 1 ≤ many) (hok : (dueO o many).ok = true) : leftO (nextO o many) < leftO o := by
 have he : (if openB (if (dueO o many).e then 1 else o.e) then 1 else 0) ≤ (if openB o.e then 1 else 0) := by
  cases (dueO o many).e with
  | false => exact Nat.le_refl _
  | true => exact Nat.zero_le _
 have hl := left_map (dueO o many).a (dueO o many).t o.s
 show (mapR (fun _ => 1) (dueO o many).a (dueO o many).t o.s).countP openB + (if openB (if (dueO o many).e then 1 else o.e) then 1 else 0) < o.s.countP openB + (if openB o.e then 1 else 0)
 have hd : (∃ x, (dueO o many).a < (dueO o many).t ∧ o.s[(dueO o many).a]? = some x ∧ openB x = true) ∨ ((dueO o many).e = true ∧ openB o.e = true) := by
  clear he hl
  unfold dueO at hok ⊢
  split
  ·rename_i p hp
   have := runO_has hp hm
   exact .inl ⟨2, this.1, this.2, rfl⟩
  ·split
   ·rename_i p hp
    have := runO_has hp hm
    exact .inl ⟨0, this.1, this.2, rfl⟩
   ·rename_i _ h1 _ h2
    simp only [h1, h2] at hok
    split at hok
    ·rename_i hc
     rw [if_pos hc]
     refine .inr ⟨rfl, ?_⟩
     rw [Bool.and_eq_true] at hc
     have h3 := hc.1
     unfold openE at h3
     rw [Bool.and_eq_true] at h3
     exact h3.2
    ·cases hok
 rcases hd with ⟨x, h1, h2, h3⟩ | ⟨h1, h2⟩
 ·have := hl.2 x h1 h2 h3
  omega
 ·rw [h1, h2]
  have := hl.1
  simp [openB] at *
  omega
theorem left_raise (T : Tb) (s : St) (o : OB) (many : Nat) : leftO (nextO1 T s o many) = leftO o := by
 unfold nextO1
 split
 ·unfold raiseO
  split <;> rfl
 ·rfl
def leftS (s : St) : Nat := (s.out.map leftO).getD 0
theorem left_nextT {T : Tb} {id : Nat} {o : OB} (ho : (T.m id).out = some o) {many : Nat} (hm : 1 ≤ many) (hok : (dueO (nextO1 T (T.m id) o many) many).ok = true) : leftS ((nextT T id o many).m id) < leftS (T.m id) := by
 have e : (nextT T id o many).m id = { T.m id with given := nextG T (T.m id) o many, out := some (nextO (nextO1 T (T.m id) o many) many) } := updM_same _ _ _
 rw [e]
 unfold leftS
 rw [ho]
 show leftO (nextO (nextO1 T (T.m id) o many) many) < leftO o
 rw [← left_raise T (T.m id) o many]
 exact left_next hm hok
structure FN (B : Nat) (w : World) (tb mb : Nat) (G : Int → SM) (T : Tb) (rb : Nat) (room : Int) (wr : World) (S : Tb) : Prop where
 tt : TT B w wr tb mb G G T S
 r : Blk wr rb #[.int .i64 room] 3
 o : Blk wr (rb + 1) #[.slice none 0 0] 47
 inv : FInv S
 dom : S.dom = T.dom
 tabs : Tabs wr
 sub : ∀ k, TS tb mb G S k → TS tb mb G T k
 star : Star T S
 gb : 2 < B
 old : TBuf B w tb mb G T
 r0 : w.heap.size = rb
theorem FN.lt {B : Nat} {w : World} {tb mb : Nat} {G : Int → SM} {T S : Tb} {rb : Nat} {room : Int} {wr : World} (h : FN B w tb mb G T rb room wr S) : ∀ k, TS tb mb G S k → k < w.heap.size := fun k hk => (h.old.lt k (h.sub k hk)).2
theorem FN.table {B : Nat} {w : World} {tb mb : Nat} {G : Int → SM} {T S S' : Tb} {rb : Nat} {room : Int} {wr w' : World} (h : FN B w tb mb G T rb room wr S) (hT : TT B wr w' tb mb G G S S') (hi : FInv S') (hd : S'.dom = S.dom) (hs : ∀ k, TS tb mb G S' k → TS tb mb G S k) (hst : Star T S') : FN B w tb mb G T rb room w' S' := by
 have hno : ∀ k, w.heap.size ≤ k → ¬ TS tb mb G S k := fun k hk e => by have := h.lt k e; omega
 have hr0 := h.r0
 refine ⟨h.tt.trans hT, hT.2.2.blk h.r (hno _ (by omega)), hT.2.2.blk h.o (hno _ (by omega)), hi, hd.trans h.dom, ?_, fun k hk => h.sub k (hs k hk), hst, h.gb, h.old, h.r0⟩
 exact hT.2.2.tabs h.tabs (fun e => by have := (h.tt.1.lt _ e).1; have := h.gb; omega)
theorem FN.still {B : Nat} {w : World} {tb mb : Nat} {G : Int → SM} {T S : Tb} {rb : Nat} {room : Int} {wr w' : World} (h : FN B w tb mb G T rb room wr S) (hM : Mod (fun _ => False) wr w') : FN B w tb mb G T rb room w' S :=
 ⟨h.tt.trans (h.tt.1.stay hM), hM.blk h.r (fun e => e), hM.blk h.o (fun e => e), h.inv, h.dom, hM.tabs h.tabs (fun e => e), h.sub, h.star, h.gb, h.old, h.r0⟩
theorem FN.start {B : Nat} {w : World} {tb mb : Nat} {G : Int → SM} {T : Tb} (q : TBuf B w tb mb G T) (hi : FInv T) (ht : Tabs w) (hg : 2 < B) (room : Int) :
  FN B w tb mb G T w.heap.size room ((w.alloc (.cells #[.int .i64 room] 3)).alloc (.cells #[.slice none 0 0] 47)) T := by
 have hM : Mod (fun _ => False) w ((w.alloc (.cells #[.int .i64 room] 3)).alloc (.cells #[.slice none 0 0] 47)) := ((Mod.refl _ _).alloc _).alloc _
 have b1 := Blk.new w #[.int .i64 room] 3
 have b2 := Blk.new (w.alloc (.cells #[.int .i64 room] 3)) #[.slice none 0 0] 47
 rw [World.size_alloc] at b2
 exact ⟨q.stay hM, b1.alloc _, b2, hi, rfl, hM.tabs ht (fun h => h), fun _ h => h, .refl, hg, q, rfl⟩
theorem wrap_low {room : Int} (h1 : room < 0) (h2 : -9223372036854775808 ≤ room) : IntKind.i64.wrap (room - 20) < 1 ∨ 200 ≤ IntKind.i64.wrap (room - 20) := by
 rw [IntKind.wrap_i64]
 omega
def FitN (w w' : World) (e : Ending) : Prop := e = .returned (.bool false) ∧ Mod (fun _ => False) w w'
theorem fit_neg {w : World} {rb ob : Nat} {room : Int} (cr0 : w.cell? ⟨rb, 0, none⟩ = some (.int .i64 room)) (hneg : room < 0) (hT : Tabs w) {f : Fr} {vd : Value} (hv : FrV w f vd nilS) (hrl : (f.rs.length : Int) ≤ 100000) (hok : okKey f.k) (hro : RngOk f) :
  Calls Tryz.prog 34 #[.agg (frC f vd nilS), .pointer (some ⟨rb, 0, none⟩), .pointer (some ⟨ob, 0, none⟩)] w fun e w' => FitN w w' e := by
 have HB := Lib.hid (FrB.new w f vd nilS hv.t)
 have HM0 : Hid (Mod (fun _ => False) w (w.alloc (.cells (frC f vd nilS) 52))) := Lib.hid ((Mod.refl _ _).alloc _)
 have HPU := Lib.hid (fput_any (HM0.out.tabs hT (fun h => h)) (hv.kept HM0.out) hrl hok hro)
 unfold frV at HPU
 have HSZ := Lib.hid (sizeFrR f vd nilS hv.t)
 have HBL := Lib.hid HB.out.blk
 have HCR := Lib.hid cr0
 obtain ⟨np, hnp⟩ : ∃ np : Nat, (fputL f).length = np := ⟨_, rfl⟩
 have HNP := Lib.hid hnp
 have t1 : decide (room < (np : Int)) = true := decide_eq_true (by omega)
 clear hv hT hrl hok hro hnp cr0 hneg
 generalize hC : frC f vd nilS = C at *
 go_enter Tryz.func34, Tryz.ntmps34
 go_wp2_with (first
  | ((with_reducible refine wpList_load_blk ?_ 52 (.tmp 3) ?_ w.heap.size ?_ C 52 _ HBL.out Tryz.underlying52 ?_ HSZ.out ?_); (iterate 4 exact rfl))
  | (go_at_call 35; (with_reducible refine HPU.out.mono ?_); rintro e w1 ⟨vp, rfl, hvp, hm⟩; obtain ⟨pa, pc, rfl, -⟩ := Sl.val hvp.byts; rw [HNP.out]; have HM1 := Lib.hid (HM0.out.trans hm); have cr : w1.cell? ⟨rb, 0, none⟩ = some (.int .i64 room) := HM1.out.cellAt HCR.out (fun h => h); clear hvp hm)
  | fail)
 go_ret
 exact ⟨rfl, HM1.out⟩
theorem dataF_neg {w : World} {rb ob : Nat} {room : Int} (cr0 : w.cell? ⟨rb, 0, none⟩ = some (.int .i64 room)) (hneg : room < 0) (hT : Tabs w) (a : Nat) :
  Calls Tryz.prog 34 #[.agg (frC (dataF a) nilS nilS), .pointer (some ⟨rb, 0, none⟩), .pointer (some ⟨ob, 0, none⟩)] w fun e w' => FitN w w' e := by
 have hi := FrI.plain w w.heap.size w.heap.size (dataF a) rfl rfl rfl
 refine fit_neg cr0 hneg hT ?_ (by show ((([] : List (Nat × Nat)).length : Nat) : Int) ≤ _; simp) (show okKey 16 from okKey_small (by decide) (by decide)) (fun x hx => by cases hx)
 obtain ⟨vd, e1, e2⟩ := hi.frv (by show ((([] : List UInt8).length : Nat) : Int) ≤ _; simp)
 have : vd = nilS := by
  have e3 := congrArg (fun l => l[6]?) e1
  simpa [frL, nilS] using e3.symm
 subst this
 exact e2
end Go.Proofs.YtolgeghdkoodnaaGreatDoor
