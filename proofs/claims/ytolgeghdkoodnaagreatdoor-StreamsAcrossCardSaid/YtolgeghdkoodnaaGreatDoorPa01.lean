/- Parts of the proof: SzA SzB SzC SzD SzE SzF. -/
import Derived.Test.YtolgeghdkoodnaaGreatDoorP24
set_option maxRecDepth 100000
namespace Go.Proofs.YtolgeghdkoodnaaGreatDoor
open Go.RowKit Go.Maps
structure Snd (s : St) (o : OB) : Prop where
 out : s.out = some o
 len : o.s.length = o.b.length
 most : o.b.length ≤ 2000
 sent : ∀ (i : Nat) (x : UInt8), o.s[i]? = some x → x ≠ 0 → i < s.given
 lim : o.lim ≤ s.given
 gmax : s.given ≤ s.max
 glen : s.given ≤ o.b.length
 e : o.e ≠ 0 → o.fin = true
 rst : s.reset = false
structure Rcv (r : IB) (o : OB) (g : Nat) (rd : List UInt8) : Prop where
 top : r.top ≤ g
 le : r.read ≤ r.top
 dom : ∀ y ∈ r.dom, (r.read : Int) ≤ y ∧ y < (r.top : Int)
 byte : ∀ y ∈ r.dom, o.b[y.toNat]? = some (r.f y)
 known : r.known = true → r.size = o.b.length ∧ o.fin = true
 rd : rd = o.b.take r.read
def Link (s : St) (inR : Prop) (t : St) (win : Nat) (rd : List UInt8) : Prop :=
 ∃ o, Snd s o ∧ (inR → t.over = false ∧ ∃ r, t.inn = some r ∧ r.win = win ∧ Rcv r o s.given rd ∧ s.max ≤ r.read + r.win) ∧ (¬ inR → rd = [] ∧ s.max ≤ win)
def idleS (s : St) : Prop := s.given = 0 ∧ ∀ o, s.out = some o → o.b = [] ∧ o.s = [] ∧ o.fin = false ∧ o.e = 0
structure Dir (S R : Tb) (pd : Nat) (ids : List Int) (rd : Int → List UInt8) : Prop where
 sub : ∀ z ∈ ids, z ∈ S.dom
 link : ∀ z ∈ ids, Link (S.m z) (z ∈ R.dom) (R.m z) R.own.s (rd z)
 idle : ∀ y ∈ S.dom, y ∉ ids → idleS (S.m y)
 none : ∀ y ∈ R.dom, y ∉ ids → topS (R.m y) = 0
 gd : givenN S ≤ S.data
 dl : S.data ≤ R.read + pd
 od : R.own.d = min pd 100000
 mine : ∀ z ∈ ids, 0 ≤ z ∧ mineB S.client z.toNat = true ∧ mineB R.client z.toNat = false ∧ z / 4 < (R.own.n : Int)
 few : ids.length ≤ 3
 nodI : ids.Nodup
 nodS : S.dom.Nodup
 nodR : R.dom.Nodup
theorem Dir.congrR {S R R' : Tb} {pd : Nat} {ids : List Int} {rd : Int → List UInt8} (h : Dir S R pd ids rd) (hd : R'.dom = R.dom) (ho : R'.own = R.own) (hr : R'.read = R.read) (hc : R'.client = R.client) (hi : ∀ y, (R'.m y).inn = (R.m y).inn ∧ (R'.m y).over = (R.m y).over) : Dir S R' pd ids rd := by
 refine ⟨h.sub, fun z hz => ?_, h.idle, fun y hy hn => ?_, h.gd, by rw [hr]; exact h.dl, by rw [ho]; exact h.od, by rw [hc, ho]; exact h.mine, h.few, h.nodI, h.nodS, by rw [hd]; exact h.nodR⟩
 ·obtain ⟨o, h1, h2, h3⟩ := h.link z hz
  rw [hd, ho]
  exact ⟨o, h1, fun e => by rw [(hi z).1, (hi z).2]; exact h2 e, h3⟩
 ·rw [hd] at hy
  have := h.none y hy hn
  unfold topS at *
  rw [(hi y).1]
  exact this
theorem Dir.congrS {S S' R : Tb} {pd : Nat} {ids : List Int} {rd : Int → List UInt8} (h : Dir S R pd ids rd) (hd : S'.dom = S.dom) (hc : S'.client = S.client) (hdt : S'.data = S.data) (hi : ∀ y, (S'.m y).out = (S.m y).out ∧ (S'.m y).given = (S.m y).given ∧ (S'.m y).max = (S.m y).max ∧ (S'.m y).reset = (S.m y).reset) : Dir S' R pd ids rd := by
 refine ⟨by rw [hd]; exact h.sub, fun z hz => ?_, fun y hy hn => ?_, h.none, ?_, by rw [hdt]; exact h.dl, h.od, by rw [hc]; exact h.mine, h.few, h.nodI, by rw [hd]; exact h.nodS, h.nodR⟩
 ·obtain ⟨o, h1, h2, h3⟩ := h.link z hz
  obtain ⟨e1, e2, e3, e4⟩ := hi z
  refine ⟨o, ⟨by rw [e1]; exact h1.out, h1.len, h1.most, by rw [e2]; exact h1.sent, by rw [e2]; exact h1.lim, by rw [e2, e3]; exact h1.gmax, by rw [e2]; exact h1.glen, h1.e, by rw [e4]; exact h1.rst⟩, fun e => ?_, fun e => ?_⟩
  ·rw [e2, e3]; exact h2 e
  ·rw [e3]; exact h3 e
 ·rw [hd] at hy
  obtain ⟨a1, a2⟩ := h.idle y hy hn
  obtain ⟨e1, e2, -⟩ := hi y
  exact ⟨by rw [e2]; exact a1, by rw [e1]; exact a2⟩
 ·rw [hdt]
  have : givenN S' = givenN S := by
   unfold givenN
   rw [hd]
   congr 1
   funext y
   exact (hi y).2.1
  rw [this]
  exact h.gd
theorem sumOn_upd (f : Int → Nat) (z : Int) (v : Nat) : ∀ l : List Int, l.Nodup → sumOn (fun y => if y = z then v else f y) l + (if z ∈ l then f z else 0) = sumOn f l + (if z ∈ l then v else 0)
 | [], _ => by simp [sumOn]
 | y :: l, h => by
  have hn := (List.nodup_cons.1 h)
  have ih := sumOn_upd f z v l hn.2
  unfold sumOn at *
  simp only [List.map_cons, List.sum_cons, List.mem_cons]
  by_cases e : y = z
  ·subst e
   have hz : ¬ y ∈ l := hn.1
   simp only [hz, if_false, if_true, true_or, Nat.add_zero] at ih ⊢
   omega
  ·have e2 : ¬ z = y := fun h => e h.symm
   simp only [e, e2, if_false, false_or] at ih ⊢
   split at ih <;> rename_i hz <;> simp only [hz, if_true, if_false] <;> omega
theorem Dir.updS {S R : Tb} {pd : Nat} {ids : List Int} {rd : Int → List UInt8} (h : Dir S R pd ids rd) {z : Int} (hz : z ∈ ids) {s' : St} (hl : Link s' (z ∈ R.dom) (R.m z) R.own.s (rd z)) (hg : givenN { S with m := updM S.m z s' } ≤ S.data) : Dir { S with m := updM S.m z s' } R pd ids rd := by
 refine ⟨h.sub, fun y hy => ?_, fun y hy hn => ?_, h.none, hg, h.dl, h.od, h.mine, h.few, h.nodI, h.nodS, h.nodR⟩
 ·show Link (updM S.m z s' y) _ _ _ _
  by_cases e : y = z
  ·subst e; rw [updM_same]; exact hl
  ·rw [updM_other e]; exact h.link y hy
 ·show idleS (updM S.m z s' y)
  rw [updM_other (fun e : y = z => hn (by rw [e]; exact hz))]
  exact h.idle y hy hn
theorem givenN_same {S : Tb} {z : Int} {s' : St} (h : s'.given = (S.m z).given) : givenN { S with m := updM S.m z s' } = givenN S := by
 unfold givenN
 congr 1
 funext y
 show (updM S.m z s' y).given = _
 by_cases e : y = z
 ·rw [e, updM_same, h]
 ·rw [updM_other e]
theorem Dir.out {S R : Tb} {pd : Nat} {ids : List Int} {rd : Int → List UInt8} (h : Dir S R pd ids rd) {z : Int} (hz : z ∈ ids) {o o' : OB} (ho : (S.m z).out = some o) {s' : St} (h2 : s'.given = (S.m z).given) (h3 : s'.max = (S.m z).max)
  (hn : Snd (S.m z) o → Snd s' o') (hb : ∀ (i : Nat) (x : UInt8), o.b[i]? = some x → o'.b[i]? = some x) (hl : o.b.length ≤ o'.b.length) (hf : o.fin = true → o'.fin = true ∧ o'.b = o.b) : Dir { S with m := updM S.m z s' } R pd ids rd := by
 refine h.updS hz ?_ (by rw [givenN_same h2]; exact h.gd)
 obtain ⟨o2, g1, g2, g3⟩ := h.link z hz
 have e : o2 = o := by have := g1.out; rw [ho] at this; exact (Option.some.inj this).symm
 subst e
 refine ⟨o', hn g1, fun e => ?_, fun e => ?_⟩
 ·obtain ⟨a1, r, a2, a3, a4, a5⟩ := g2 e
  refine ⟨a1, r, a2, a3, ⟨by rw [h2]; exact a4.top, a4.le, a4.dom, fun y hy => hb _ _ (a4.byte y hy), fun hk => ?_, ?_⟩, by rw [h3]; exact a5⟩
  ·obtain ⟨k1, k2⟩ := a4.known hk
   obtain ⟨k3, k4⟩ := hf k2
   exact ⟨by rw [k4]; exact k1, k3⟩
  ·rw [a4.rd]
   have hle : r.read ≤ o2.b.length := by have := a4.le; have := a4.top; have := g1.glen; omega
   apply List.ext_getElem?
   intro i
   rw [List.getElem?_take, List.getElem?_take]
   by_cases hi : i < r.read
   ·rw [if_pos hi, if_pos hi]
    have hx := List.getElem?_eq_getElem (l := o2.b) (i := i) (by omega)
    rw [hx, hb i _ hx]
   ·rw [if_neg hi, if_neg hi]
 ·rw [h3]; exact g3 e
end Go.Proofs.YtolgeghdkoodnaaGreatDoor
set_option maxRecDepth 100000
namespace Go.Proofs.YtolgeghdkoodnaaGreatDoor
open Go.RowKit Go.Maps
theorem Dir.write {S R : Tb} {pd : Nat} {ids : List Int} {rd : Int → List UInt8} (h : Dir S R pd ids rd) {id : Nat} (hz : (id : Int) ∈ ids) (data : List UInt8) : Dir (wrT S id data) R pd ids rd := by
 unfold wrT
 split
 ·obtain ⟨o, g1, -⟩ := h.link _ hz
  refine h.out hz g1.out (o' := writeO o data) rfl rfl (fun k => ?_) (fun i x hx => ?_) ?_ (fun hf => ?_)
  ·by_cases hf : o.fin = true
   ·have e : writeO o data = o := by unfold writeO; rw [if_pos hf]
    rw [e]
    exact ⟨by show (S.m id).out.map _ = some o; rw [k.out]; show some (writeO o data) = some o; rw [e], k.len, k.most, k.sent, k.lim, k.gmax, k.glen, k.e, k.rst⟩
   ·have e : writeO o data = { o with b := o.b ++ data.take (writeN o data), s := o.s ++ List.replicate (writeN o data) 0 } := by unfold writeO; rw [if_neg hf]
    have hn : writeN o data = min data.length (2000 - o.b.length) := by unfold writeN; rw [if_neg hf]
    have hm := k.most
    refine ⟨by show (S.m id).out.map _ = _; rw [k.out]; rfl, ?_, ?_, ?_, by rw [e]; exact k.lim, k.gmax, ?_, by rw [e]; exact k.e, k.rst⟩
    ·rw [e]
     simp only [List.length_append, List.length_take, List.length_replicate]
     have := k.len
     omega
    ·rw [e]
     simp only [List.length_append, List.length_take]
     omega
    ·rw [e]
     intro i x hx hx0
     have hx2 : (o.s ++ List.replicate (writeN o data) 0)[i]? = some x := hx
     by_cases hi : i < o.s.length
     ·rw [List.getElem?_append_left hi] at hx2
      exact k.sent i x hx2 hx0
     ·rw [List.getElem?_append_right (by omega), List.getElem?_replicate] at hx2
      split at hx2
      ·exact absurd (Option.some.inj hx2).symm hx0
      ·cases hx2
    ·rw [e]
     simp only [List.length_append]
     have := k.glen
     show (S.m id).given ≤ _
     omega
  ·unfold writeO
   split
   ·exact hx
   ·show (o.b ++ _)[i]? = some x
    rw [List.getElem?_append_left (List.getElem?_eq_some_iff.1 hx).1]
    exact hx
  ·unfold writeO
   split
   ·exact Nat.le_refl _
   ·simp
  ·have e : writeO o data = o := by unfold writeO; rw [if_pos hf]
   rw [e]
   exact ⟨hf, rfl⟩
 ·exact h
theorem Dir.finish {S R : Tb} {pd : Nat} {ids : List Int} {rd : Int → List UInt8} (h : Dir S R pd ids rd) {id : Nat} (hz : (id : Int) ∈ ids) : Dir (fnT S id) R pd ids rd := by
 unfold fnT
 split
 ·obtain ⟨o, g1, -⟩ := h.link _ hz
  exact h.out hz g1.out (o' := { o with fin := true }) rfl rfl (fun k => ⟨by show (S.m id).out.map _ = _; rw [k.out]; rfl, k.len, k.most, k.sent, k.lim, k.gmax, k.glen, fun _ => rfl, k.rst⟩) (fun i x hx => hx) (Nat.le_refl _) (fun _ => ⟨rfl, rfl⟩)
 ·exact h
theorem Dir.turn {S R : Tb} {pd : Nat} {ids : List Int} {rd : Int → List UInt8} (h : Dir S R pd ids rd) {id : Nat} (hz : (id : Int) ∈ ids) {o : OB} (ho : (S.m id).out = some o) (f : UInt8 → UInt8) (hf0 : f 0 = 0) (off n : Nat) (e : Bool) : Dir (setO S id (turnO f off n e o)) R pd ids rd := by
 refine h.out hz ho (o' := turnO f off n e o) rfl rfl (fun k => ⟨rfl, ?_, k.most, fun i x hx hx0 => ?_, k.lim, k.gmax, k.glen, fun he => ?_, k.rst⟩) (fun i x hx => hx) (Nat.le_refl _) (fun hf => ⟨hf, rfl⟩)
 ·show (mapR f _ _ o.s).length = o.b.length
  rw [mapR_len]
  exact k.len
 ·have hx2 : (mapR f (min off o.s.length) (min off o.s.length + n) o.s)[i]? = some x := hx
  rw [mapR_get] at hx2
  cases hs : o.s[i]? with
  | none => rw [hs] at hx2; cases hx2
  | some y =>
   rw [hs, Option.map_some] at hx2
   refine k.sent i y hs (fun hy => hx0 ?_)
   have := Option.some.inj hx2
   rw [← this, hy]
   split
   ·exact hf0
   ·rfl
 ·show o.fin = true
  have he2 : (if e && o.fin then f o.e else o.e) ≠ 0 := he
  by_cases hc : (e && o.fin) = true
  ·rw [Bool.and_eq_true] at hc
   exact hc.2
  ·rw [if_neg hc] at he2
   exact k.e he2
theorem idle_turn {f : UInt8 → UInt8} {off n : Nat} {e : Bool} {o : OB} (h : o.b = [] ∧ o.s = [] ∧ o.fin = false ∧ o.e = 0) : turnO f off n e o = o := by
 obtain ⟨b, s, fin, e2, lim⟩ := o
 obtain ⟨h1, h2, h3, h4⟩ := h
 simp only at h1 h2 h3 h4
 subst h1 h2 h3 h4
 unfold turnO
 simp [mapR]
theorem Dir.turnA {S R : Tb} {pd : Nat} {ids : List Int} {rd : Int → List UInt8} (h : Dir S R pd ids rd) {id : Nat} (hd : (id : Int) ∈ S.dom) {o : OB} (ho : (S.m id).out = some o) (f : UInt8 → UInt8) (hf0 : f 0 = 0) (off n : Nat) (e : Bool) : Dir (setO S id (turnO f off n e o)) R pd ids rd := by
 by_cases hz : (id : Int) ∈ ids
 ·exact h.turn hz ho f hf0 off n e
 ·rw [idle_turn ((h.idle _ hd hz).2 o ho)]
  refine h.congrS rfl rfl rfl (fun y => ?_)
  show (updM S.m id _ y).out = _ ∧ (updM S.m id _ y).given = _ ∧ (updM S.m id _ y).max = _ ∧ (updM S.m id _ y).reset = _
  by_cases e2 : y = id
  ·subst e2; rw [updM_same]; exact ⟨ho.symm, rfl, rfl, rfl⟩
  ·rw [updM_other e2]; exact ⟨rfl, rfl, rfl, rfl⟩
theorem setTell_out (s : St) (k : Int) (b : Bool) : (setTell s k b).out = s.out ∧ (setTell s k b).given = s.given ∧ (setTell s k b).max = s.max ∧ (setTell s k b).reset = s.reset ∧ (setTell s k b).inn = s.inn ∧ (setTell s k b).over = s.over := by
 unfold setTell
 split
 ·exact ⟨rfl, rfl, rfl, rfl, rfl, rfl⟩
 ·split
  ·exact ⟨rfl, rfl, rfl, rfl, rfl, rfl⟩
  ·split
   ·exact ⟨rfl, rfl, rfl, rfl, rfl, rfl⟩
   ·exact ⟨rfl, rfl, rfl, rfl, rfl, rfl⟩
theorem Dir.tellS {S R : Tb} {pd : Nat} {ids : List Int} {rd : Int → List UInt8} (h : Dir S R pd ids rd) (z k : Int) (b : Bool) : Dir { S with m := updM S.m z (setTell (S.m z) k b) } R pd ids rd := by
 refine h.congrS rfl rfl rfl (fun y => ?_)
 show (updM S.m z _ y).out = _ ∧ (updM S.m z _ y).given = _ ∧ (updM S.m z _ y).max = _ ∧ (updM S.m z _ y).reset = _
 by_cases e : y = z
 ·subst e; rw [updM_same]; obtain ⟨a1, a2, a3, a4, -⟩ := setTell_out (S.m y) k b; exact ⟨a1, a2, a3, a4⟩
 ·rw [updM_other e]; exact ⟨rfl, rfl, rfl, rfl⟩
theorem Dir.tellR {S R : Tb} {pd : Nat} {ids : List Int} {rd : Int → List UInt8} (h : Dir S R pd ids rd) (z k : Int) (b : Bool) : Dir S { R with m := updM R.m z (setTell (R.m z) k b) } pd ids rd := by
 refine h.congrR rfl rfl rfl rfl (fun y => ?_)
 show (updM R.m z _ y).inn = _ ∧ (updM R.m z _ y).over = _
 by_cases e : y = z
 ·subst e; rw [updM_same]; obtain ⟨-, -, -, -, a5, a6⟩ := setTell_out (R.m y) k b; exact ⟨a5, a6⟩
 ·rw [updM_other e]; exact ⟨rfl, rfl⟩
theorem Dir.outR {S R : Tb} {pd : Nat} {ids : List Int} {rd : Int → List UInt8} (h : Dir S R pd ids rd) (z : Int) {s' : St} (h1 : s'.inn = (R.m z).inn) (h2 : s'.over = (R.m z).over) : Dir S { R with m := updM R.m z s' } pd ids rd := by
 refine h.congrR rfl rfl rfl rfl (fun y => ?_)
 show (updM R.m z _ y).inn = _ ∧ (updM R.m z _ y).over = _
 by_cases e : y = z
 ·subst e; rw [updM_same]; exact ⟨h1, h2⟩
 ·rw [updM_other e]; exact ⟨rfl, rfl⟩
theorem raise_eq (g : Nat) (o : OB) : (raiseO g o).s = o.s ∧ (raiseO g o).b = o.b ∧ (raiseO g o).fin = o.fin ∧ (raiseO g o).e = o.e ∧ (raiseO g o).lim = max o.lim g := by
 unfold raiseO
 split
 ·exact ⟨rfl, rfl, rfl, rfl, by show g = _; omega⟩
 ·exact ⟨rfl, rfl, rfl, rfl, by omega⟩
theorem takeWhile_all (p : UInt8 → Bool) : ∀ (l : List UInt8) (j : Nat) (x : UInt8), (l.takeWhile p)[j]? = some x → l[j]? = some x ∧ p x = true
 | [], j, x, h => by simp at h
 | y :: l, j, x, h => by
  by_cases hp : p y = true
  ·rw [List.takeWhile_cons_of_pos hp] at h
   cases j with
   | zero => simp at h; subst h; exact ⟨rfl, hp⟩
   | succ j => simpa using takeWhile_all p l j x (by simpa using h)
  ·rw [List.takeWhile_cons_of_neg hp] at h
   simp at h
theorem runO_state {s : List UInt8} {st : UInt8} {top many : Nat} {p : Nat × Nat} (h : runO s st top many = some p) : ∀ i, p.1 ≤ i → i < p.2 → s[i]? = some st := by
 unfold runO at h
 split at h
 ·cases h
 ·cases h
  intro i h1 h2
  dsimp only at h1 h2
  obtain ⟨j, rfl⟩ : ∃ j, i = (Lib.indexByte (s.take top) st).toNat + j := ⟨i - (Lib.indexByte (s.take top) st).toNat, by omega⟩
  exact ((runL_more (s := s) (st := st) (top := top) (many := many) (k := (Lib.indexByte (s.take top) st).toNat) (j := j) (by omega)).1 (by omega)).2.2
end Go.Proofs.YtolgeghdkoodnaaGreatDoor
set_option maxRecDepth 100000
namespace Go.Proofs.YtolgeghdkoodnaaGreatDoor
open Go.RowKit Go.Maps
theorem dueO_cases (o : OB) (many : Nat) : (∀ i, (dueO o many).a ≤ i → i < (dueO o many).t → o.s[i]? = some 2 ∨ i < openN o) ∧ ((dueO o many).e = true → o.fin = true ∧ (dueO o many).t = o.s.length) := by
 have hfin : ∀ {b : Bool}, (openE o && b) = true → o.fin = true := fun h => by
  rw [Bool.and_eq_true] at h
  have h1 := h.1
  unfold openE at h1
  rw [Bool.and_eq_true] at h1
  exact h1.1
 unfold dueO
 split
 ·rename_i p h
  refine ⟨fun i h1 h2 => .inl (runO_state h i h1 h2), fun he => ⟨hfin he, ?_⟩⟩
  have he2 : (openE o && decide (p.2 = o.s.length)) = true := he
  rw [Bool.and_eq_true] at he2
  exact of_decide_eq_true he2.2
 ·split
  ·rename_i p h
   have hle := (runO_le h (by unfold openN; omega)).2
   refine ⟨fun i h1 h2 => .inr (Nat.lt_of_lt_of_le h2 hle), fun he => ⟨hfin he, ?_⟩⟩
   have he2 : (openE o && decide (p.2 = o.s.length)) = true := he
   rw [Bool.and_eq_true] at he2
   exact of_decide_eq_true he2.2
  ·split
   ·rename_i h
    exact ⟨fun i h1 h2 => (by dsimp only at h1 h2; omega), fun _ => ⟨hfin h, rfl⟩⟩
   ·exact ⟨fun i h1 h2 => (by dsimp only at h1 h2; omega), fun he => (by cases he)⟩
theorem runO_pos {s : List UInt8} {st : UInt8} {top many : Nat} {p : Nat × Nat} (h : runO s st top many = some p) (hm : 1 ≤ many) : p.1 < p.2 := by
 unfold runO at h
 split at h
 ·cases h
 ·rename_i hn
  cases h
  obtain ⟨k, hk⟩ := Int.eq_ofNat_of_zero_le (by omega : 0 ≤ Lib.indexByte (s.take top) st)
  have h1 := (Lib.indexByte_some hk).1
  rw [List.getElem?_take] at h1
  split at h1
  ·rename_i hlt
   have := (runL_more (s := s) (st := st) (top := top) (many := many) (k := k) (j := 0) (Nat.zero_le _)).2 ⟨hlt, hm, h1⟩
   rw [hk]
   dsimp only
   rw [Int.toNat_natCast]
   omega
  ·cases h1
theorem dueO_ok {o : OB} {many : Nat} (h : (dueO o many).ok = true) (hm : 1 ≤ many) : (dueO o many).a < (dueO o many).t ∨ ((dueO o many).a = o.s.length ∧ ∀ (i : Nat) (x : UInt8), o.s[i]? = some x → x ≠ 0) := by
 unfold dueO at h ⊢
 split
 ·rename_i p hp
  exact .inl (runO_pos hp hm)
 ·split
  ·rename_i p hp
   exact .inl (runO_pos hp hm)
  ·rename_i _ h1 _ h2
   simp only [h1, h2] at h
   split at h
   ·rename_i hc
    rw [if_pos hc]
    rw [Bool.and_eq_true] at hc
    refine .inr ⟨rfl, fun i x hx e => ?_⟩
    subst e
    have hn := of_decide_eq_true hc.2
    have hge := Lib.indexByte_ge o.s 0
    exact Lib.indexByte_none (show Lib.indexByte o.s 0 = -1 by omega) i hx
   ·cases h
theorem nextO1_facts (T : Tb) (s : St) (o : OB) (many : Nat) : (nextO1 T s o many).s = o.s ∧ (nextO1 T s o many).b = o.b ∧ (nextO1 T s o many).fin = o.fin ∧ (nextO1 T s o many).e = o.e ∧ (o.lim ≤ s.given → (nextO1 T s o many).lim ≤ nextG T s o many) := by
 unfold nextO1 nextG
 split
 ·obtain ⟨a1, a2, a3, a4, a5⟩ := raise_eq (newGiven T s o many) o
  refine ⟨a1, a2, a3, a4, fun h => ?_⟩
  rw [a5]
  unfold newGiven
  omega
 ·exact ⟨rfl, rfl, rfl, rfl, fun h => h⟩
theorem nextG_facts {T : Tb} {s : St} {o : OB} (many : Nat) (h1 : s.given ≤ s.max) (h2 : s.given ≤ o.b.length) (h3 : givenN T ≤ T.data) : s.given ≤ nextG T s o many ∧ nextG T s o many ≤ s.max ∧ nextG T s o many ≤ o.b.length ∧ givenN T + (nextG T s o many - s.given) ≤ T.data := by
 unfold nextG
 split
 ·unfold newGiven nextWant
  omega
 ·omega
theorem givenN_upd {T : Tb} {z : Int} {s' : St} (hz : z ∈ T.dom) (hn : T.dom.Nodup) : givenN { T with m := updM T.m z s' } + (T.m z).given = givenN T + s'.given := by
 have h := sumOn_upd (fun y => (T.m y).given) z s'.given T.dom hn
 rw [if_pos hz, if_pos hz] at h
 unfold givenN
 rw [← h]
 congr 2
 funext y
 show (updM T.m z s' y).given = _
 by_cases e : y = z
 ·rw [e, updM_same, if_pos rfl]
 ·rw [updM_other e, if_neg e]
theorem Snd.next {T : Tb} {s : St} {o : OB} (k : Snd s o) (many : Nat) (hg : givenN T ≤ T.data) : Snd { s with given := nextG T s o many, out := some (nextO (nextO1 T s o many) many) } (nextO (nextO1 T s o many) many) := by
 obtain ⟨a1, a2, a3, a4, a5⟩ := nextO1_facts T s o many
 obtain ⟨g1, g2, g3, -⟩ := nextG_facts (T := T) many k.gmax k.glen hg
 obtain ⟨d1, d2⟩ := dueO_cases (nextO1 T s o many) many
 refine ⟨rfl, ?_, ?_, fun i x hx hx0 => ?_, ?_, g2, ?_, fun he => ?_, k.rst⟩
 ·show (mapR _ _ _ _).length = (nextO1 T s o many).b.length
  rw [mapR_len, a1, a2]
  exact k.len
 ·show (nextO1 T s o many).b.length ≤ 2000
  rw [a2]; exact k.most
 ·show i < nextG T s o many
  have hx2 : (mapR (fun _ => 1) (dueO (nextO1 T s o many) many).a (dueO (nextO1 T s o many) many).t (nextO1 T s o many).s)[i]? = some x := hx
  rw [mapR_get] at hx2
  cases hs : (nextO1 T s o many).s[i]? with
  | none => rw [hs] at hx2; cases hx2
  | some y =>
   rw [hs, Option.map_some] at hx2
   by_cases hc : (dueO (nextO1 T s o many) many).a ≤ i ∧ i < (dueO (nextO1 T s o many) many).t
   ·rcases d1 i hc.1 hc.2 with e | e
    ·rw [a1] at e
     have := k.sent i 2 e (by decide)
     omega
    ·have := a5 k.lim
     unfold openN at e
     omega
   ·rw [if_neg hc] at hx2
    have := k.sent i y (by rw [← a1]; exact hs) (by rw [Option.some.inj hx2]; exact hx0)
    omega
 ·show (nextO1 T s o many).lim ≤ _
  exact a5 k.lim
 ·show _ ≤ (nextO1 T s o many).b.length
  rw [a2]; exact g3
 ·show (nextO1 T s o many).fin = true
  have he2 : (if (dueO (nextO1 T s o many) many).e then 1 else (nextO1 T s o many).e) ≠ 0 := he
  by_cases hc : (dueO (nextO1 T s o many) many).e = true
  ·exact (d2 hc).1
  ·rw [if_neg hc, a4] at he2
   rw [a3]
   exact k.e he2
theorem idle_next {T : Tb} {s : St} {o : OB} (h : idleS s) (ho : s.out = some o) (many : Nat) : nextG T s o many = s.given ∧ nextO (nextO1 T s o many) many = o ∧ (dueO (nextO1 T s o many) many).ok = false := by
 obtain ⟨h1, h2, h3, h4⟩ := h.2 o ho
 have hr : raisesB T s o = false := by
  unfold raisesB nextWant
  rw [h.1, h1]
  simp
 have e1 : nextO1 T s o many = o := by unfold nextO1; rw [hr]; rfl
 have e2 : nextG T s o many = s.given := by unfold nextG; rw [hr]; rfl
 rw [e1]
 obtain ⟨b, st, fin, e, lim⟩ := o
 simp only at h1 h2 h3 h4
 subst h1 h2 h3 h4
 refine ⟨e2, ?_, ?_⟩
 ·unfold nextO dueO runO openE
  simp [Lib.indexByte, mapR]
 ·unfold dueO runO openE
  simp [Lib.indexByte]
theorem Dir.next {S R : Tb} {pd : Nat} {ids : List Int} {rd : Int → List UInt8} (h : Dir S R pd ids rd) {id : Nat} (hd : (id : Int) ∈ S.dom) {o : OB} (ho : (S.m id).out = some o) (many : Nat) : Dir (nextT S id o many) R pd ids rd := by
 by_cases hz : (id : Int) ∈ ids
 ·obtain ⟨o2, k, l2, l3⟩ := h.link _ hz
  have e : o2 = o := by have := k.out; rw [ho] at this; exact (Option.some.inj this).symm
  subst e
  obtain ⟨g1, g2, g3, g4⟩ := nextG_facts (T := S) many k.gmax k.glen h.gd
  obtain ⟨a1, a2, a3, a4, -⟩ := nextO1_facts S (S.m id) o2 many
  refine h.updS hz ⟨_, k.next many h.gd, fun e => ?_, l3⟩ ?_
  ·obtain ⟨b1, r, b2, b3, b4, b5⟩ := l2 e
   refine ⟨b1, r, b2, b3, ⟨Nat.le_trans b4.top g1, b4.le, b4.dom, fun y hy => ?_, fun hk => ?_, ?_⟩, b5⟩
   ·show (nextO1 S (S.m id) o2 many).b[y.toNat]? = _
    rw [a2]; exact b4.byte y hy
   ·show r.size = (nextO1 S (S.m id) o2 many).b.length ∧ (nextO1 S (S.m id) o2 many).fin = true
    rw [a2, a3]; exact b4.known hk
   ·show _ = (nextO1 S (S.m id) o2 many).b.take r.read
    rw [a2]; exact b4.rd
  ·have := givenN_upd (T := S) (z := (id : Int)) (s' := { S.m id with given := nextG S (S.m id) o2 many, out := some (nextO (nextO1 S (S.m id) o2 many) many) }) hd h.nodS
   have e : ({ S.m id with given := nextG S (S.m id) o2 many, out := some (nextO (nextO1 S (S.m id) o2 many) many) } : St).given = nextG S (S.m id) o2 many := rfl
   rw [e] at this
   omega
 ·obtain ⟨e1, e2, -⟩ := idle_next (T := S) (h.idle _ hd hz) ho many
  refine h.congrS rfl rfl rfl (fun y => ?_)
  show (updM S.m id _ y).out = _ ∧ (updM S.m id _ y).given = _ ∧ (updM S.m id _ y).max = _ ∧ (updM S.m id _ y).reset = _
  by_cases e : y = id
  ·subst e
   rw [updM_same]
   exact ⟨by rw [ho]; show some (nextO _ _) = _; rw [e2], e1, rfl, rfl⟩
  ·rw [updM_other e]; exact ⟨rfl, rfl, rfl, rfl⟩
def FrOk (S : Tb) (ids : List Int) (f : Fr) : Prop := f.k = 8 ∧ (f.id : Int) ∈ ids ∧ f.rs = [] ∧ f.t.length = 16 ∧ ∃ o, (S.m f.id).out = some o ∧ f.a + f.d.length ≤ (S.m f.id).given ∧ (∀ j x, f.d[j]? = some x → o.b[f.a + j]? = some x) ∧ (f.fl = true → o.fin = true ∧ f.a + f.d.length = o.b.length)
theorem Dir.frame {S R : Tb} {pd : Nat} {ids : List Int} {rd : Int → List UInt8} (h : Dir S R pd ids rd) {id : Nat} (hd : (id : Int) ∈ S.dom) {o : OB} (ho : (S.m id).out = some o) {many : Nat} (hm1 : 1 ≤ many) (hok : (dueO (nextO1 S (S.m id) o many) many).ok = true) : FrOk (nextT S id o many) ids (nextF' S id o many) := by
 by_cases hz : (id : Int) ∈ ids
 ·obtain ⟨o2, k, -⟩ := h.link _ hz
  have e : o2 = o := by have := k.out; rw [ho] at this; exact (Option.some.inj this).symm
  subst e
  have kn := k.next (T := S) many h.gd
  obtain ⟨a1, a2, a3, a4, a5⟩ := nextO1_facts S (S.m id) o2 many
  obtain ⟨d1, d2⟩ := dueO_cases (nextO1 S (S.m id) o2 many) many
  have dl := dueO_le (nextO1 S (S.m id) o2 many) many
  rw [a1] at dl
  have hlen : (nextB (nextO1 S (S.m id) o2 many) many).length = (dueO (nextO1 S (S.m id) o2 many) many).t - (dueO (nextO1 S (S.m id) o2 many) many).a := by
   unfold nextB
   rw [List.length_drop, List.length_take, a2]
   have := k.len
   omega
  have hm : (nextT S id o2 many).m id = { S.m id with given := nextG S (S.m id) o2 many, out := some (nextO (nextO1 S (S.m id) o2 many) many) } := updM_same _ _ _
  refine ⟨rfl, hz, rfl, rfl, nextO (nextO1 S (S.m id) o2 many) many, ?_, ?_, fun j x hx => ?_, fun hfl => ?_⟩
  ·show ((nextT S id o2 many).m id).out = _
   rw [hm]
  ·show (dueO _ many).a + (nextB _ many).length ≤ ((nextT S id o2 many).m id).given
   rw [hm, hlen]
   show _ ≤ nextG S (S.m id) o2 many
   have g1 := (nextG_facts (T := S) many k.gmax k.glen h.gd).1
   rcases Nat.lt_or_ge (dueO (nextO1 S (S.m id) o2 many) many).a (dueO (nextO1 S (S.m id) o2 many) many).t with hlt | hge
   ·have h1 := d1 ((dueO (nextO1 S (S.m id) o2 many) many).t - 1) (by omega) (by omega)
    rcases h1 with e | e
    ·rw [a1] at e
     have := k.sent _ 2 e (by decide)
     omega
    ·have := a5 k.lim
     unfold openN at e
     omega
   ·rcases dueO_ok hok hm1 with e | ⟨e1, e2⟩
    ·omega
    ·rw [a1] at e1 e2
     rw [e1]
     rcases Nat.eq_zero_or_pos o2.s.length with e0 | e0
     ·omega
     ·have hx := List.getElem?_eq_getElem (l := o2.s) (i := o2.s.length - 1) (by omega)
      have := k.sent _ _ hx (e2 _ _ hx)
      omega
  ·show (nextO (nextO1 S (S.m id) o2 many) many).b[_ + j]? = some x
   have hx2 : (nextB (nextO1 S (S.m id) o2 many) many)[j]? = some x := hx
   unfold nextB at hx2
   rw [List.getElem?_drop, List.getElem?_take] at hx2
   split at hx2
   ·exact hx2
   ·cases hx2
  ·have hfl2 : (dueO (nextO1 S (S.m id) o2 many) many).e = true := hfl
   obtain ⟨e1, e2⟩ := d2 hfl2
   refine ⟨e1, ?_⟩
   show (dueO _ many).a + (nextB _ many).length = (nextO1 S (S.m id) o2 many).b.length
   rw [hlen, e2, a1, a2, ← k.len]
   rw [e2, a1] at dl
   omega
 ·have := (idle_next (T := S) (h.idle _ hd hz) ho many).2.2
  rw [this] at hok
  cases hok
end Go.Proofs.YtolgeghdkoodnaaGreatDoor
set_option maxRecDepth 100000
namespace Go.Proofs.YtolgeghdkoodnaaGreatDoor
open Go.RowKit Go.Maps
def Good (T : Tb) : Prop := FInv T ∧ ∀ z ∈ T.dom, (T.m z).reset = false ∧ (T.m z).over = false ∧ (T.m z).tR = false
structure Pair (A B : Tb) (pa pb : Nat) (ia ib : List Int) (ra rb : Int → List UInt8) : Prop where
 ab : Dir A B pb ia ra
 ba : Dir B A pa ib rb
 ga : Good A
 gb : Good B
 ta : ∀ z ∈ A.dom, (A.m z).tM = true → z ∈ ib
 tb : ∀ z ∈ B.dom, (B.m z).tM = true → z ∈ ia
 da : ∀ z ∈ A.dom, z ∈ ia ∨ z ∈ ib
 db : ∀ z ∈ B.dom, z ∈ ib ∨ z ∈ ia
theorem Pair.swap {A B : Tb} {pa pb : Nat} {ia ib : List Int} {ra rb : Int → List UInt8} (h : Pair A B pa pb ia ib ra rb) : Pair B A pb pa ib ia rb ra := ⟨h.ba, h.ab, h.gb, h.ga, h.tb, h.ta, h.db, h.da⟩
def FAny (A : Tb) (ia ib : List Int) (f : Fr) : Prop :=
 FrOk A ia f ∨ (f.k = 17 ∧ (f.id : Int) ∈ ib ∧ (f.id : Int) ∈ A.dom ∧ f.rs = [] ∧ f.t.length = 16 ∧ f.d = [] ∧ ∃ r, (A.m f.id).inn = some r ∧ f.a = r.read + r.win) ∨ (f.k = 16 ∧ f.id = 0 ∧ f.rs = [] ∧ f.t.length = 16 ∧ f.d = [] ∧ f.a ≤ A.read + A.own.d)
theorem FAny.kept {A A' : Tb} {ia ib : List Int} {f : Fr} (h : FAny A ia ib f) (hd : A'.dom = A.dom) (hr : A'.read = A.read) (ho : A'.own = A.own)
  (hs : ∀ y, (A'.m y).inn = (A.m y).inn ∧ (A.m y).given ≤ (A'.m y).given ∧ ∀ o, (A.m y).out = some o → ∃ o', (A'.m y).out = some o' ∧ o'.b = o.b ∧ o'.fin = o.fin) : FAny A' ia ib f := by
 rcases h with ⟨h1, h2, h3, h4, o, h5, h6, h7, h8⟩ | ⟨h1, h2, h3, h4, h5, h6, r, h7, h8⟩ | h
 ·obtain ⟨-, s2, s3⟩ := hs f.id
  obtain ⟨o', e1, e2, e3⟩ := s3 o h5
  exact .inl ⟨h1, h2, h3, h4, o', e1, Nat.le_trans h6 s2, by rw [e2]; exact h7, by rw [e2, e3]; exact h8⟩
 ·exact .inr (.inl ⟨h1, h2, by rw [hd]; exact h3, h4, h5, h6, r, by rw [(hs f.id).1]; exact h7, h8⟩)
 ·exact .inr (.inr (by rw [hr, ho]; exact h))
theorem FAny.upd {A : Tb} {ia ib : List Int} {f : Fr} (h : FAny A ia ib f) {z : Int} {s' : St} (h1 : s'.inn = (A.m z).inn) (h2 : (A.m z).given ≤ s'.given) (h3 : ∀ o, (A.m z).out = some o → ∃ o', s'.out = some o' ∧ o'.b = o.b ∧ o'.fin = o.fin) : FAny { A with m := updM A.m z s' } ia ib f := by
 refine h.kept rfl rfl rfl (fun y => ?_)
 show (updM A.m z s' y).inn = _ ∧ _ ≤ (updM A.m z s' y).given ∧ ∀ o, _ → ∃ o', (updM A.m z s' y).out = _ ∧ _
 by_cases e : y = z
 ·rw [e, updM_same]; exact ⟨h1, h2, h3⟩
 ·rw [updM_other e]; exact ⟨rfl, Nat.le_refl _, fun o ho => ⟨o, ho, rfl, rfl⟩⟩
theorem Good.upd {T : Tb} (h : Good T) {z : Int} {s' : St} (hf : FInv { T with m := updM T.m z s' }) (h1 : s'.reset = false) (h2 : s'.over = false) (h3 : s'.tR = false) : Good { T with m := updM T.m z s' } := by
 refine ⟨hf, fun y hy => ?_⟩
 show (updM T.m z s' y).reset = false ∧ (updM T.m z s' y).over = false ∧ (updM T.m z s' y).tR = false
 by_cases e : y = z
 ·rw [e, updM_same]; exact ⟨h1, h2, h3⟩
 ·rw [updM_other e]; exact h.2 y hy
theorem tm_upd {T : Tb} {ib : List Int} (h : ∀ z ∈ T.dom, (T.m z).tM = true → z ∈ ib) {z : Int} {s' : St} (hs : s'.tM = true → z ∈ ib) : ∀ y ∈ T.dom, (updM T.m z s' y).tM = true → y ∈ ib := by
 intro y hy ht
 by_cases e : y = z
 ·rw [e, updM_same] at ht; rw [e]; exact hs ht
 ·rw [updM_other e] at ht; exact h y hy ht
theorem Pair.next {A B : Tb} {pa pb : Nat} {ia ib : List Int} {ra rb : Int → List UInt8} (h : Pair A B pa pb ia ib ra rb) {id : Nat} (hd : (id : Int) ∈ A.dom) {o : OB} (ho : (A.m id).out = some o) (many : Nat) : Pair (nextT A id o many) B pa pb ia ib ra rb := by
 obtain ⟨g1, g2, g3⟩ := h.ga.2 _ hd
 exact ⟨h.ab.next hd ho many, h.ba.outR _ rfl rfl, h.ga.upd (h.ga.1.next hd ho many) g1 g2 g3, h.gb, tm_upd h.ta (h.ta _ hd), h.tb, h.da, h.db⟩
theorem FAny.next {A : Tb} {ia ib : List Int} {f : Fr} (h : FAny A ia ib f) {id : Nat} {o : OB} (ho : (A.m id).out = some o) (many : Nat) (hg : (A.m id).given ≤ nextG A (A.m id) o many) : FAny (nextT A id o many) ia ib f := by
 obtain ⟨a1, a2, a3, -⟩ := nextO1_facts A (A.m id) o many
 refine h.upd rfl hg (fun o2 h2 => ?_)
 rw [ho] at h2
 cases h2
 exact ⟨_, rfl, a2, a3⟩
theorem nextG_ge {T : Tb} {s : St} {o : OB} {many : Nat} : s.given ≤ nextG T s o many := by
 unfold nextG
 split
 ·unfold newGiven; omega
 ·exact Nat.le_refl _
theorem Pair.untell {A B : Tb} {pa pb : Nat} {ia ib : List Int} {ra rb : Int → List UInt8} (h : Pair A B pa pb ia ib ra rb) {id : Nat} (hd : (id : Int) ∈ A.dom) (k : Int) : Pair (untell A id k) B pa pb ia ib ra rb := by
 obtain ⟨g1, g2, g3⟩ := h.ga.2 _ hd
 obtain ⟨-, -, -, a4, -, a6⟩ := setTell_out (A.m id) k false
 obtain ⟨-, b2, b3⟩ := setTell_le (A.m id) k
 refine ⟨h.ab.tellS _ _ _, h.ba.tellR _ _ _, h.ga.upd (h.ga.1.untell hd k) (by rw [a4]; exact g1) (by rw [a6]; exact g2) ?_, h.gb, tm_upd h.ta (fun e => h.ta _ hd (b3 e)), h.tb, h.da, h.db⟩
 cases hb : (setTell (A.m id) k false).tR
 ·rfl
 ·rw [b2 hb] at g3; cases g3
theorem FAny.untell {A : Tb} {ia ib : List Int} {f : Fr} (h : FAny A ia ib f) (id : Nat) (k : Int) : FAny (untell A id k) ia ib f := by
 obtain ⟨a1, a2, a3, a4, a5, a6⟩ := setTell_out (A.m id) k false
 exact h.upd a5 (by rw [a2]; exact Nat.le_refl _) (fun o ho => ⟨o, by rw [a1]; exact ho, rfl, rfl⟩)
theorem Pair.tell {A B : Tb} {pa pb : Nat} {ia ib : List Int} {ra rb : Int → List UInt8} (h : Pair A B pa pb ia ib ra rb) (b : Bool) : Pair { A with tell := b } B pa pb ia ib ra rb :=
 ⟨h.ab.congrS rfl rfl rfl (fun _ => ⟨rfl, rfl, rfl, rfl⟩), h.ba.congrR rfl rfl rfl rfl (fun _ => ⟨rfl, rfl⟩), ⟨h.ga.1.tell b, h.ga.2⟩, h.gb, h.ta, h.tb, h.da, h.db⟩
theorem FAny.tell {A : Tb} {ia ib : List Int} {f : Fr} (h : FAny A ia ib f) (b : Bool) : FAny { A with tell := b } ia ib f := h.kept rfl rfl rfl (fun _ => ⟨rfl, Nat.le_refl _, fun o ho => ⟨o, ho, rfl, rfl⟩⟩)
structure Kn where
 N : Nat
 ia : List Int
 wr : Int → List UInt8
def Cnt (T : Tb) (K : Kn) : Prop := T.read ≤ K.N ∧ (∀ y, (T.m y).taken ≤ K.N) ∧ ∀ y ∈ K.ia, y ∈ T.dom ∧ ∃ o, (T.m y).out = some o ∧ o.b = K.wr y
theorem Cnt.upd {T : Tb} {K : Kn} (h : Cnt T K) {z : Int} {s' : St} (hs : s'.taken = (T.m z).taken) (ho : ∀ o, (T.m z).out = some o → ∃ o', s'.out = some o' ∧ o'.b = o.b) : Cnt { T with m := updM T.m z s' } K := by
 refine ⟨h.1, fun y => ?_, fun y hy => ⟨(h.2.2 y hy).1, ?_⟩⟩
 ·show (updM T.m z s' y).taken ≤ K.N
  by_cases e : y = z
  ·rw [e, updM_same, hs]; exact h.2.1 z
  ·rw [updM_other e]; exact h.2.1 y
 ·show ∃ o, (updM T.m z s' y).out = some o ∧ o.b = K.wr y
  obtain ⟨o, h1, h2⟩ := (h.2.2 y hy).2
  by_cases e : y = z
  ·rw [e, updM_same]
   obtain ⟨o', h3, h4⟩ := ho o (by rw [← e]; exact h1)
   exact ⟨o', h3, by rw [h4, h2, e]⟩
  ·rw [updM_other e]; exact ⟨o, h1, h2⟩
theorem setTell_taken (s : St) (k : Int) (b : Bool) : (setTell s k b).taken = s.taken := by
 unfold setTell
 split
 ·rfl
 ·split
  ·rfl
  ·split <;> rfl
theorem Cnt.tell {T : Tb} {N : Kn} (h : Cnt T N) (b : Bool) : Cnt { T with tell := b } N := h
theorem Cnt.untell {T : Tb} {N : Kn} (h : Cnt T N) (id : Nat) (k : Int) : Cnt (untell T id k) N := h.upd (setTell_taken _ _ _) (fun o ho => ⟨o, by rw [(setTell_out (T.m id) k false).1]; exact ho, rfl⟩)
theorem Cnt.next {T : Tb} {N : Kn} (h : Cnt T N) (id : Nat) (o : OB) (many : Nat) (ho : (T.m id).out = some o) : Cnt (nextT T id o many) N := h.upd rfl (fun o2 h2 => by
 rw [ho] at h2
 cases h2
 exact ⟨_, rfl, (nextO1_facts T (T.m id) o many).2.1⟩)
structure OutI (B : Tb) (pa pb : Nat) (ia ib : List Int) (ra rb : Int → List UInt8) (dom : List Int) (rn : Kn) (s : FO) : Prop where
 pair : Pair s.T B pa pb ia ib ra rb
 dom : s.T.dom = dom
 cnt : Cnt s.T rn
 all : ∀ f ∈ s.l, FAny s.T ia ib f
theorem OutI.ret {B : Tb} {pa pb : Nat} {ia ib : List Int} {ra rb : Int → List UInt8} {dom : List Int} {rn : Kn} {s : FO} (h : OutI B pa pb ia ib ra rb dom rn s) : OutI B pa pb ia ib ra rb dom rn { s with ret := true } := ⟨h.pair, h.dom, h.cnt, h.all⟩
theorem out_due {B : Tb} {pa pb : Nat} {ia ib : List Int} {ra rb : Int → List UInt8} {dom : List Int} {rn : Kn} {id : Nat} (hid : (id : Int) ∈ dom) : ∀ (L : List Fr) (s : FO), OutI B pa pb ia ib ra rb dom rn s → (∀ f ∈ L, FAny s.T ia ib f) → OutI B pa pb ia ib ra rb dom rn (dueStep id L s)
 | [], s, h, _ => h
 | f :: L, s, h, hL => by
  show OutI B pa pb ia ib ra rb dom rn (if fitB f s.room then dueStep id L ⟨untell s.T id f.k, s.room - (fputL f).length, s.l ++ [f], false⟩ else { s with ret := true })
  split
  ·refine out_due hid L _ ⟨h.pair.untell (by rw [h.dom]; exact hid) f.k, h.dom, h.cnt.untell id f.k, fun g hg => ?_⟩ (fun g hg => (hL g (List.mem_cons_of_mem _ hg)).untell id f.k)
   rcases List.mem_append.1 hg with e | e
   ·exact (h.all g e).untell id f.k
   ·rw [List.mem_singleton.1 e]; exact (hL f List.mem_cons_self).untell id f.k
  ·exact h.ret
theorem due_any_ok {A B : Tb} {pa pb : Nat} {ia ib : List Int} {ra rb : Int → List UInt8} (h : Pair A B pa pb ia ib ra rb) {id : Nat} (hid : (id : Int) ∈ A.dom) : ∀ f ∈ dueL (A.m id) id, FAny A ia ib f := by
 intro f hf
 obtain ⟨g1, g2, g3⟩ := h.ga.2 _ hid
 unfold dueL at hf
 rw [g3] at hf
 simp only [Bool.false_eq_true, if_false, List.nil_append] at hf
 split at hf
 ·rename_i hc
  have ht : (A.m id).tM = true := by rw [Bool.and_eq_true] at hc; exact hc.1
  obtain ⟨r, hr⟩ := h.ga.1.tM _ hid ht g2
  rw [List.mem_singleton.1 hf]
  exact .inr (.inl ⟨rfl, h.ta _ hid ht, hid, rfl, rfl, rfl, r, hr, by rw [hr]; rfl⟩)
 ·cases hf
theorem out_phase1 {B : Tb} {pa pb : Nat} {ia ib : List Int} {ra rb : Int → List UInt8} {dom : List Int} {rn : Kn} : ∀ (L : List Int) (s : FO), (∀ z ∈ L, z ∈ dom) → OutI B pa pb ia ib ra rb dom rn s → OutI B pa pb ia ib ra rb dom rn (phase1 L s)
 | [], s, _, h => h
 | z :: L, s, hL, h => by
  have h0 : z ∈ s.T.dom := by rw [h.dom]; exact hL z List.mem_cons_self
  obtain ⟨id, rfl⟩ := Int.eq_ofNat_of_zero_le (h.pair.ga.1.ids z h0).1
  have h1 := out_due (hL _ List.mem_cons_self) (dueL (s.T.m id) id) s h (due_any_ok h.pair h0)
  show OutI B pa pb ia ib ra rb dom rn (if (dueStep id (dueL (s.T.m id) id) s).ret then dueStep id (dueL (s.T.m id) id) s else phase1 L (dueStep id (dueL (s.T.m id) id) s))
  split
  ·exact h1
  ·exact out_phase1 L _ (fun y hy => hL y (List.mem_cons_of_mem _ hy)) h1
theorem out_phase2 {B : Tb} {pa pb : Nat} {ia ib : List Int} {ra rb : Int → List UInt8} {dom : List Int} {rn : Kn} {s : FO} (h : OutI B pa pb ia ib ra rb dom rn s) : OutI B pa pb ia ib ra rb dom rn (phase2 s) := by
 unfold phase2
 split
 ·split
  ·refine ⟨h.pair.tell false, h.dom, h.cnt.tell false, fun f hf => ?_⟩
   rcases List.mem_append.1 hf with e | e
   ·exact (h.all f e).tell false
   ·rw [List.mem_singleton.1 e]
    exact .inr (.inr ⟨rfl, rfl, rfl, rfl, rfl, Nat.le_refl _⟩)
  ·exact h.ret
 ·exact ⟨h.pair.tell false, h.dom, h.cnt.tell false, fun f hf => (h.all f hf).tell false⟩
theorem out_pump {B : Tb} {pa pb : Nat} {ia ib : List Int} {ra rb : Int → List UInt8} {dom : List Int} {rn : Kn} {id : Nat} (hid : (id : Int) ∈ dom) : ∀ (n : Nat) (s : FO), OutI B pa pb ia ib ra rb dom rn s → OutI B pa pb ia ib ra rb dom rn (pump id n s)
 | 0, s, h => h
 | n + 1, s, h => by
  have hz : (id : Int) ∈ s.T.dom := by rw [h.dom]; exact hid
  cases ho : (s.T.m id).out with
  | none => rw [pump_none ho]; exact h
  | some o =>
   have hr := (h.pair.ga.2 _ hz).1
   by_cases h21 : s.room < 21
   ·rw [pump_full ho hr h21]; exact h.ret
   ·obtain ⟨many, hm⟩ : ∃ many : Nat, min (s.room.toNat - 20) 200 = many := ⟨_, rfl⟩
    have hp := h.pair.next hz ho many
    cases hok : (dueO (nextO1 s.T (s.T.m id) o many) many).ok with
    | false =>
     rw [pump_stop ho hr h21 hm hok]
     exact ⟨hp, h.dom, h.cnt.next id o many ho, fun f hf => (h.all f hf).next ho many nextG_ge⟩
    | true =>
     rw [pump_go ho hr h21 hm hok]
     refine out_pump hid n _ ⟨hp, h.dom, h.cnt.next id o many ho, fun f hf => ?_⟩
     rcases List.mem_append.1 hf with e | e
     ·exact (h.all f e).next ho many nextG_ge
     ·rw [List.mem_singleton.1 e]
      exact .inl (h.pair.ab.frame hz ho (by omega) hok)
theorem out_phase3 {B : Tb} {pa pb : Nat} {ia ib : List Int} {ra rb : Int → List UInt8} {dom : List Int} {rn : Kn} : ∀ (L : List Int) (s : FO), (∀ z ∈ L, z ∈ dom) → OutI B pa pb ia ib ra rb dom rn s → OutI B pa pb ia ib ra rb dom rn (phase3 L s)
 | [], s, _, h => h
 | z :: L, s, hL, h => by
  have h0 : z ∈ s.T.dom := by rw [h.dom]; exact hL z List.mem_cons_self
  obtain ⟨id, rfl⟩ := Int.eq_ofNat_of_zero_le (h.pair.ga.1.ids z h0).1
  have h1 := out_pump (hL _ List.mem_cons_self) (s.room.toNat + 1) s h
  show OutI B pa pb ia ib ra rb dom rn (if (pump id (s.room.toNat + 1) s).ret then pump id (s.room.toNat + 1) s else phase3 L (pump id (s.room.toNat + 1) s))
  split
  ·exact h1
  ·exact out_phase3 L _ (fun y hy => hL y (List.mem_cons_of_mem _ hy)) h1
theorem Pair.frames {A B : Tb} {pa pb : Nat} {ia ib : List Int} {ra rb : Int → List UInt8} {rn : Kn} (h : Pair A B pa pb ia ib ra rb) (hc : Cnt A rn) (room : Int) : OutI B pa pb ia ib ra rb A.dom rn (framesO A room) := by
 have hL : ∀ z ∈ sortI A.dom, z ∈ A.dom := fun z hz => sortI_mem.1 hz
 have h0 : OutI B pa pb ia ib ra rb A.dom rn ⟨A, room, [], false⟩ := ⟨h, rfl, hc, fun f hf => by cases hf⟩
 have h1 := out_phase1 _ _ hL h0
 unfold framesO
 dsimp only
 split
 ·exact h1
 ·have h2 := out_phase2 h1
  split
  ·exact h2
  ·exact out_phase3 _ _ hL h2
end Go.Proofs.YtolgeghdkoodnaaGreatDoor
set_option maxRecDepth 100000
namespace Go.Proofs.YtolgeghdkoodnaaGreatDoor
open Go.RowKit Go.Maps
theorem FInv.outT {T : Tb} (h : FInv T) {id : Nat} (hz : (id : Int) ∈ T.dom) {o' : OB} (h1 : o'.s.length ≤ 2000) (h2 : o'.b.length ≤ 2000) {s' : St} (e1 : s'.out = some o') (e2 : s'.inn = (T.m id).inn) (e3 : s'.given = (T.m id).given) (e4 : s'.tS = (T.m id).tS) (e6 : s'.tM = (T.m id).tM) (e7 : s'.over = (T.m id).over) (e8 : s'.code = (T.m id).code) : FInv { T with m := updM T.m id s' } := by
 refine h.upd ?_ (by rw [e3]; exact h.small.givens _ hz) (by rw [e4]; exact h.tS _ hz) (fun _ => ⟨o', e1⟩) (by rw [e6, e7, e2]; exact h.tM _ hz) (by rw [e8]; exact h.code _ hz) (by rw [e2]; exact h.inn _ hz) (fun o2 h3 => ?_)
 ·have := h.small.tops _ hz
  unfold topS at *
  rw [e2]
  exact this
 ·rw [e1] at h3
  cases h3
  exact ⟨h1, h2⟩
theorem Pair.outT {A B : Tb} {pa pb : Nat} {ia ib : List Int} {ra rb : Int → List UInt8} (h : Pair A B pa pb ia ib ra rb) {id : Nat} (hd : (id : Int) ∈ A.dom) {o' : OB} (h1 : o'.s.length ≤ 2000) (h2 : o'.b.length ≤ 2000) {s' : St} (e1 : s'.out = some o') (e2 : s'.inn = (A.m id).inn) (e3 : s'.given = (A.m id).given) (e4 : s'.tS = (A.m id).tS) (e5 : s'.tR = (A.m id).tR) (e6 : s'.tM = (A.m id).tM) (e7 : s'.over = (A.m id).over) (e8 : s'.code = (A.m id).code) (e9 : s'.reset = (A.m id).reset)
  (hab : Dir { A with m := updM A.m id s' } B pb ia ra) : Pair { A with m := updM A.m id s' } B pa pb ia ib ra rb := by
 obtain ⟨g1, g2, g3⟩ := h.ga.2 _ hd
 exact ⟨hab, h.ba.outR _ e2 e7, h.ga.upd (h.ga.1.outT hd h1 h2 e1 e2 e3 e4 e6 e7 e8) (by rw [e9]; exact g1) (by rw [e7]; exact g2) (by rw [e5]; exact g3), h.gb, tm_upd h.ta (fun e => h.ta _ hd (by rw [← e6]; exact e)), h.tb, h.da, h.db⟩
theorem Pair.write {A B : Tb} {pa pb : Nat} {ia ib : List Int} {ra rb : Int → List UInt8} (h : Pair A B pa pb ia ib ra rb) {id : Nat} (hz : (id : Int) ∈ ia) (data : List UInt8) : Pair (wrT A id data) B pa pb ia ib ra rb := by
 have hab := h.ab.write hz data
 obtain ⟨o, k, -⟩ := h.ab.link _ hz
 have hd := h.ab.sub _ hz
 unfold wrT at *
 split at hab
 ·rename_i he
  rw [if_pos he]
  have hl : (writeO o data).s.length = (writeO o data).b.length ∧ (writeO o data).b.length ≤ 2000 := by
   have hk := k.len
   have hm := k.most
   unfold writeO writeN
   split
   ·exact ⟨hk, hm⟩
   ·simp only [List.length_append, List.length_take, List.length_replicate]
    omega
  exact h.outT hd (o' := writeO o data) (by omega) hl.2 (by show (A.m id).out.map _ = _; rw [k.out]; rfl) rfl rfl rfl rfl rfl rfl rfl rfl hab
 ·rename_i he
  rw [if_neg he]
  exact h
theorem Pair.finish {A B : Tb} {pa pb : Nat} {ia ib : List Int} {ra rb : Int → List UInt8} (h : Pair A B pa pb ia ib ra rb) {id : Nat} (hz : (id : Int) ∈ ia) : Pair (fnT A id) B pa pb ia ib ra rb := by
 have hab := h.ab.finish hz
 obtain ⟨o, k, -⟩ := h.ab.link _ hz
 have hd := h.ab.sub _ hz
 unfold fnT at *
 split at hab
 ·rename_i he
  rw [if_pos he]
  exact h.outT hd (o' := { o with fin := true }) (by have := k.len; have := k.most; show o.s.length ≤ 2000; omega) k.most (by show (A.m id).out.map _ = _; rw [k.out]; rfl) rfl rfl rfl rfl rfl rfl rfl rfl hab
 ·rename_i he
  rw [if_neg he]
  exact h
theorem Pair.turn {A B : Tb} {pa pb : Nat} {ia ib : List Int} {ra rb : Int → List UInt8} (h : Pair A B pa pb ia ib ra rb) {id : Nat} (hd : (id : Int) ∈ A.dom) {o : OB} (ho : (A.m id).out = some o) (f : UInt8 → UInt8) (hf0 : f 0 = 0) (off n : Nat) (e : Bool) : Pair (setO A id (turnO f off n e o)) B pa pb ia ib ra rb := by
 obtain ⟨l1, l2⟩ := h.ga.1.outs _ hd o ho
 exact h.outT hd (o' := turnO f off n e o) (by show (mapR f _ _ o.s).length ≤ 2000; rw [mapR_len]; exact l1) l2 rfl rfl rfl rfl rfl rfl rfl rfl rfl (h.ab.turnA hd ho f hf0 off n e)
theorem FAny.turn {A : Tb} {ia ib : List Int} {g : Fr} (h : FAny A ia ib g) {id : Nat} {o : OB} (ho : (A.m id).out = some o) (f : UInt8 → UInt8) (off n : Nat) (e : Bool) : FAny (setO A id (turnO f off n e o)) ia ib g := by
 refine h.upd rfl (Nat.le_refl _) (fun o2 h2 => ?_)
 rw [ho] at h2
 cases h2
 exact ⟨_, rfl, rfl, rfl⟩
theorem Pair.acked {A B : Tb} {pa pb : Nat} {ia ib : List Int} {ra rb : Int → List UInt8} (h : Pair A B pa pb ia ib ra rb) {f : Fr} (hf : FAny A ia ib f) : Pair (ackT A f) B pa pb ia ib ra rb ∧ ∀ g, FAny A ia ib g → FAny (ackT A f) ia ib g := by
 have hk4 : f.k ≠ 4 := by rcases hf with e | e | e <;> (rw [e.1]; decide)
 unfold ackT
 split
 ·exact ⟨h, fun g hg => hg⟩
 ·rename_i o ho
  unfold outOf at ho
  split at ho
  ·rename_i hd
   split
   ·exact ⟨h.turn hd ho ackF rfl _ _ _, fun g hg => hg.turn ho ackF _ _ _⟩
   ·exact ⟨h, fun g hg => hg⟩
  ·cases ho
theorem Pair.lost {A B : Tb} {pa pb : Nat} {ia ib : List Int} {ra rb : Int → List UInt8} (h : Pair A B pa pb ia ib ra rb) {f : Fr} (hf : FAny A ia ib f) : Pair (lostT A f) B pa pb ia ib ra rb ∧ ∀ g, FAny A ia ib g → FAny (lostT A f) ia ib g := by
 have hk4 : f.k ≠ 4 := by rcases hf with e | e | e <;> (rw [e.1]; decide)
 unfold lostT
 split
 ·exact ⟨h.tell true, fun g hg => hg.tell true⟩
 ·rename_i hk16
  split
  ·exact ⟨h, fun g hg => hg⟩
  ·rename_i hdd
   have hd : (f.id : Int) ∈ A.dom := Decidable.byContradiction hdd
   split
   ·rename_i hc
    obtain ⟨o, ho⟩ := Option.isSome_iff_exists.1 hc.2
    rw [ho]
    exact ⟨h.turn hd ho lostF rfl _ _ _, fun g hg => hg.turn ho lostF _ _ _⟩
   ·split
    ·rename_i hc
     obtain ⟨r, hr⟩ := Option.isSome_iff_exists.1 hc.2
     obtain ⟨a1, a2, a3, a4, a5, a6⟩ := setTell_out (A.m f.id) 17 true
     obtain ⟨g1, g2, g3⟩ := h.ga.2 _ hd
     have hib : (f.id : Int) ∈ ib := by
      rcases hf with e | e | e
      ·rw [e.1] at hc; exact absurd hc.1 (by decide)
      ·exact e.2.1
      ·exact absurd e.1 hk16
     have es : setTell (A.m f.id) 17 true = { A.m f.id with tM := true } := rfl
     refine ⟨⟨h.ab.tellS _ _ _, h.ba.tellR _ _ _, h.ga.upd (h.ga.1.upd ?_ ?_ ?_ ?_ ?_ ?_ ?_ ?_) (by rw [a4]; exact g1) (by rw [a6]; exact g2) (by rw [es]; exact g3), h.gb, tm_upd h.ta (fun _ => hib), h.tb, h.da, h.db⟩, fun g hg => hg.upd a5 (by rw [a2]; exact Nat.le_refl _) (fun o ho => ⟨o, by rw [a1]; exact ho, rfl, rfl⟩)⟩
     ·exact h.ga.1.small.tops _ hd
     ·exact h.ga.1.small.givens _ hd
     ·exact h.ga.1.tS _ hd
     ·exact h.ga.1.tR _ hd
     ·exact fun _ _ => ⟨r, hr⟩
     ·exact h.ga.1.code _ hd
     ·exact h.ga.1.inn _ hd
     ·exact h.ga.1.outs _ hd
    ·exact ⟨h, fun g hg => hg⟩
end Go.Proofs.YtolgeghdkoodnaaGreatDoor
set_option maxRecDepth 100000
namespace Go.Proofs.YtolgeghdkoodnaaGreatDoor
open Go.RowKit Go.Maps
theorem sumOn_cons (f : Int → Nat) (y : Int) (l : List Int) : sumOn f (y :: l) = f y + sumOn f l := by unfold sumOn; simp
theorem sumOn_sub (f g : Int → Nat) : ∀ (l m : List Int), l.Nodup → (∀ y ∈ l, f y = 0 ∨ (y ∈ m ∧ f y ≤ g y)) → sumOn f l ≤ sumOn g m
 | [], m, _, _ => by simp [sumOn]
 | y :: l, m, hn, h => by
  have hn2 := List.nodup_cons.1 hn
  rw [sumOn_cons]
  rcases h y List.mem_cons_self with e | ⟨e1, e2⟩
  ·have := sumOn_sub f g l m hn2.2 (fun z hz => h z (List.mem_cons_of_mem _ hz))
   omega
  ·have hp := sumOn_perm g (List.perm_cons_erase e1)
   rw [sumOn_cons] at hp
   have := sumOn_sub f g l (m.erase y) hn2.2 (fun z hz => by
    rcases h z (List.mem_cons_of_mem _ hz) with h1 | ⟨h1, h2⟩
    ·exact .inl h1
    ·refine .inr ⟨(List.mem_erase_of_ne (fun e : z = y => hn2.1 (by rw [← e]; exact hz))).2 h1, h2⟩)
   omega
theorem sumOn_congr {f g : Int → Nat} {l : List Int} (h : ∀ y ∈ l, f y = g y) : sumOn f l = sumOn g l := by
 unfold sumOn
 rw [List.map_congr_left h]
theorem Dir.inn {S R : Tb} {pd : Nat} {ids : List Int} {rd : Int → List UInt8} (h : Dir S R pd ids rd) {id : Nat} (hz : (id : Int) ∈ ids) : ∃ o, Snd (S.m id) o ∧ Rcv (inO R id) o (S.m id).given (rd id) ∧ (S.m id).max ≤ (inO R id).read + (inO R id).win ∧ ((id : Int) ∈ R.dom → (R.m id).over = false ∧ (R.m id).inn = some (inO R id)) ∧ (inO R id).win = R.own.s := by
 obtain ⟨o, k, l2, l3⟩ := h.link _ hz
 unfold inO inOf
 by_cases hd : (id : Int) ∈ R.dom
 ·obtain ⟨a1, r, a2, a3, a4, a5⟩ := l2 hd
  rw [if_pos hd, a2]
  exact ⟨o, k, a4, a5, fun _ => ⟨a1, rfl⟩, a3⟩
 ·obtain ⟨b1, b2⟩ := l3 hd
  rw [if_neg hd]
  refine ⟨o, k, ⟨Nat.zero_le _, Nat.zero_le _, fun y hy => (by cases hy), fun y hy => (by cases hy), fun hk => (by cases hk), by rw [b1]; rfl⟩, ?_, fun e => absurd e hd, rfl⟩
  show _ ≤ 0 + R.own.s
  omega
theorem Dir.room {S R : Tb} {pd : Nat} {ids : List Int} {rd : Int → List UInt8} (h : Dir S R pd ids rd) {id : Nat} (hz : (id : Int) ∈ ids) {E : Nat} (hE : E ≤ (S.m id).given) : topsN R + E - wasN R (if (id : Int) ∈ R.dom then some (id : Int) else Option.none) ≤ R.read + R.own.d := by
 have hg : ∀ y ∈ ids, (S.m y).given ≤ 2000 := fun y hy => by
  obtain ⟨o, k, -⟩ := h.link y hy
  have := k.glen
  have := k.most
  omega
 have ht : ∀ y ∈ R.dom, y ∈ ids → topS (R.m y) ≤ (S.m y).given := fun y hy hi => by
  obtain ⟨o, k, l2, -⟩ := h.link y hi
  obtain ⟨-, r, a2, -, a4, -⟩ := l2 hy
  unfold topS
  rw [a2]
  exact a4.top
 obtain ⟨D, u, hD, hu, hs⟩ : ∃ (D : List Int) (u : Int → Nat), D.Nodup ∧ (∀ y ∈ D, u y = 0 ∨ (y ∈ ids ∧ u y ≤ (S.m y).given)) ∧ topsN R + E - wasN R (if (id : Int) ∈ R.dom then some (id : Int) else Option.none) ≤ sumOn u D := by
  by_cases hd : (id : Int) ∈ R.dom
  ·refine ⟨R.dom, fun y => if y = (id : Int) then E else topS (R.m y), h.nodR, fun y hy => ?_, ?_⟩
   ·dsimp only
    by_cases e : y = (id : Int)
    ·rw [if_pos e, e]; exact .inr ⟨hz, hE⟩
    ·rw [if_neg e]
     by_cases hi : y ∈ ids
     ·exact .inr ⟨hi, ht y hy hi⟩
     ·exact .inl (h.none y hy hi)
   ·have := sumOn_upd (fun y => topS (R.m y)) (id : Int) E R.dom h.nodR
    rw [if_pos hd, if_pos hd] at this
    rw [if_pos hd]
    show topsN R + E - topS (R.m id) ≤ _
    unfold topsN
    omega
  ·refine ⟨(id : Int) :: R.dom, fun y => if y = (id : Int) then E else topS (R.m y), List.nodup_cons.2 ⟨hd, h.nodR⟩, fun y hy => ?_, ?_⟩
   ·dsimp only
    by_cases e : y = (id : Int)
    ·rw [if_pos e, e]; exact .inr ⟨hz, hE⟩
    ·rw [if_neg e]
     have hy2 : y ∈ R.dom := (List.mem_cons.1 hy).resolve_left e
     by_cases hi : y ∈ ids
     ·exact .inr ⟨hi, ht y hy2 hi⟩
     ·exact .inl (h.none y hy2 hi)
   ·rw [if_neg hd, sumOn_cons]
    have := sumOn_congr (f := fun y => if y = (id : Int) then E else topS (R.m y)) (g := fun y => topS (R.m y)) (l := R.dom) (fun y hy => if_neg (fun e : y = (id : Int) => hd (by rw [← e]; exact hy)))
    rw [this, if_pos rfl]
    show topsN R + E - 0 ≤ _
    unfold topsN
    omega
 have b1 : sumOn u D ≤ givenN S := sumOn_sub u _ D S.dom hD (fun y hy => (hu y hy).imp_right (fun e => ⟨h.sub y e.1, e.2⟩))
 have b2 : sumOn u D ≤ sumOn (fun y => (S.m y).given) ids := sumOn_sub u _ D ids hD hu
 have b3 := sumOn_le (fun y => (S.m y).given) 2000 ids hg
 have b4 := h.gd
 have b5 := h.dl
 have b6 := h.od
 have b7 := h.few
 omega
theorem Dir.comeOk {S R : Tb} {pd : Nat} {ids : List Int} {rd : Int → List UInt8} (h : Dir S R pd ids rd) {f : Fr} (hf : FrOk S ids f) : ComeOk R f.id f.a f.d.length f.fl := by
 obtain ⟨-, hz, -, -, o2, ho2, hE, hb, hfl⟩ := hf
 obtain ⟨o, k, rc, hmx, hin, hwin⟩ := h.inn hz
 have e : o2 = o := by have := k.out; rw [ho2] at this; exact Option.some.inj this
 subst e
 obtain ⟨m0, m1, m2, m3⟩ := h.mine _ hz
 rw [Int.toNat_natCast] at m1 m2
 have k1 := k.glen
 have k2 := k.most
 have k3 := k.gmax
 have k4 := rc.top
 refine ⟨?_, fun hd => ⟨(hin hd).1, _, (hin hd).2⟩, by omega, ?_, ?_⟩
 ·unfold findE
  rw [m2, if_neg (by simp)]
  split
  ·rfl
  ·rw [if_neg (by decide), if_neg (by omega)]
 ·unfold risesB
  rw [Bool.or_eq_true]
  exact .inr (decide_eq_true (h.room hz hE))
 ·unfold putErr
  rw [if_neg (by omega), if_neg]
  unfold badFin
  intro hc
  simp only [Bool.or_eq_true, Bool.and_eq_true, decide_eq_true_eq] at hc
  rcases hc with ⟨hk, hc⟩ | ⟨hl, hc⟩
  ·obtain ⟨n1, n2⟩ := rc.known hk
   rcases hc with hc | ⟨hl, hc⟩
   ·omega
   ·have := (hfl hl).2
    omega
  ·have := (hfl hl).2
   omega
end Go.Proofs.YtolgeghdkoodnaaGreatDoor
