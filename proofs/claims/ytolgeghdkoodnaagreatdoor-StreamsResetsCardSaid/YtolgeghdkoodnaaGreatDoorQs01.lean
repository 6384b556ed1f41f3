/- Parts of the proof: SwA SwB SwC SwD. -/
import Derived.Test.YtolgeghdkoodnaaGreatDoorQ25
set_option maxRecDepth 100000
namespace Go.Proofs.YtolgeghdkoodnaaGreatDoor
open Go.RowKit Go.Maps
def ones (k : Nat) : List UInt8 := List.replicate k 1
def zrs (k : Nat) : List UInt8 := List.replicate k 0
theorem ib_not_mem : ∀ {l : List UInt8} {c : UInt8}, c ∉ l → Lib.indexByte l c = -1
 | [], _, _ => rfl
 | b :: l, c, h => by
  have h1 : (b == c) = false := by
   rw [beq_eq_false_iff_ne]
   exact fun e => h (by rw [e]; exact List.mem_cons_self)
  have h2 := ib_not_mem (l := l) (c := c) (fun e => h (List.mem_cons_of_mem _ e))
  unfold Lib.indexByte
  rw [h1, h2]
  rfl
theorem ib_skip : ∀ (k : Nat) (l : List UInt8), Lib.indexByte (ones k ++ l) 0 = if Lib.indexByte l 0 < 0 then -1 else (k : Int) + Lib.indexByte l 0
 | 0, l => by
  have := Lib.indexByte_ge l 0
  show Lib.indexByte l 0 = _
  split
  ·omega
  ·simp
 | k + 1, l => by
  have ih := ib_skip k l
  have e : Lib.indexByte (ones (k + 1) ++ l) 0 = if Lib.indexByte (ones k ++ l) 0 == -1 then -1 else Lib.indexByte (ones k ++ l) 0 + 1 := by
   show (if ((1 : UInt8) == 0) = true then 0 else if Lib.indexByte (ones k ++ l) 0 == -1 then -1 else Lib.indexByte (ones k ++ l) 0 + 1) = _
   rw [if_neg (by decide)]
  rw [e, ih]
  have := Lib.indexByte_ge l 0
  by_cases h : Lib.indexByte l 0 < 0
  ·rw [if_pos h, if_pos h, if_pos (by decide)]
  ·rw [if_neg h, if_neg h, if_neg (by simp; omega)]
   push_cast
   omega
theorem ib_zrs (n : Nat) : Lib.indexByte (zrs n) 0 = if n = 0 then -1 else 0 := by
 cases n with
 | zero => rfl
 | succ n => rfl
theorem mem_row {k n : Nat} {c : UInt8} (h1 : c ≠ 1) (h0 : c ≠ 0) : c ∉ ones k ++ zrs n := by
 simp [ones, zrs, h1, h0]
def oT (text : List UInt8) (k : Nat) : OB := ⟨text, ones k ++ zrs (text.length - k), false, 0, k⟩
theorem oT_len {text : List UInt8} {k : Nat} (h : k ≤ text.length) : (oT text k).s.length = text.length := by simp [oT, ones, zrs]; omega
theorem sent_oT {text : List UInt8} {k : Nat} (h : k ≤ text.length) : sentO (oT text k) = k := by
 have hl := oT_len h
 unfold sentO
 rw [hl]
 show (if Lib.indexByte (ones k ++ zrs (text.length - k)) 0 < 0 then text.length else (Lib.indexByte (ones k ++ zrs (text.length - k)) 0).toNat) = k
 rw [ib_skip, ib_zrs]
 by_cases e : text.length - k = 0
 ·rw [if_pos e]
  show text.length = k
  omega
 ·rw [if_neg e]
  show (if ((k : Int) + 0) < 0 then text.length else ((k : Int) + 0).toNat) = k
  rw [if_neg (by omega)]
  omega
theorem run2_none (k n top many : Nat) : runO (ones k ++ zrs n) 2 top many = none := by
 unfold runO
 rw [ib_not_mem (fun h => mem_row (c := 2) (by decide) (by decide) (List.mem_of_mem_take h)), if_pos (by decide)]
theorem run0_none (k n top many : Nat) (h : top ≤ k) : runO (ones k ++ zrs n) 0 top many = none := by
 unfold runO
 have e : (ones k ++ zrs n).take top = ones top := by
  rw [List.take_append_of_le_length (by simp [ones]; omega)]
  simp [ones, List.take_replicate, Nat.min_eq_left h]
 rw [e, ib_not_mem (by simp [ones]), if_pos (by decide)]
theorem run0_zrs (n top many : Nat) (h : top ≤ n) (h0 : 0 < top) (hm : top ≤ many) : runO (ones 0 ++ zrs n) 0 top many = some (0, top) := by
 have e : (ones 0 ++ zrs n).take top = zrs top := by
  show (zrs n).take top = _
  simp [zrs, List.take_replicate, Nat.min_eq_left h]
 have e3 : Lib.indexByte (zrs top) 0 = 0 := by rw [ib_zrs, if_neg (by omega)]
 unfold runO runL
 rw [e, e3, if_neg (by decide)]
 have e2 : ((zrs top).drop (0 : Int).toNat).takeWhile (· == 0) = zrs top := by
  show (zrs top).takeWhile (· == 0) = _
  simp [zrs]
 rw [e2]
 simp [zrs]
 omega
theorem due_idle (text : List UInt8) (k many : Nat) : dueO (oT text k) many = ⟨0, 0, false, false⟩ := by
 unfold dueO
 show (match runO (ones k ++ zrs (text.length - k)) 2 (oT text k).s.length many with | some p => _ | none => match runO (ones k ++ zrs (text.length - k)) 0 (openN (oT text k)) many with | some p => _ | none => _) = _
 rw [run2_none, run0_none _ _ _ _ (by unfold openN oT; dsimp only; omega)]
 rfl
theorem due_first (text : List UInt8) (k many : Nat) (h : k ≤ text.length) (h0 : 0 < k) (hm : k ≤ many) : dueO { oT text 0 with lim := k } many = ⟨0, k, false, true⟩ := by
 have hl := oT_len (text := text) (k := 0) (Nat.zero_le _)
 unfold dueO
 show (match runO (ones 0 ++ zrs (text.length - 0)) 2 (oT text 0).s.length many with | some p => _ | none => match runO (ones 0 ++ zrs (text.length - 0)) 0 (openN { oT text 0 with lim := k }) many with | some p => _ | none => _) = _
 have e : openN { oT text 0 with lim := k } = k := by
  unfold openN
  show min (oT text 0).s.length k = k
  rw [hl]; omega
 rw [run2_none, e, run0_zrs _ _ _ (by omega) h0 hm]
 rfl
theorem next_first (text : List UInt8) (k many : Nat) (h : k ≤ text.length) (h0 : 0 < k) (hm : k ≤ many) : nextO { oT text 0 with lim := k } many = oT text k ∧ nextB { oT text 0 with lim := k } many = text.take k := by
 unfold nextO nextB
 rw [due_first text k many h h0 hm]
 refine ⟨?_, by simp [oT]⟩
 show OB.mk text (mapR (fun _ => 1) 0 k (ones 0 ++ zrs (text.length - 0))) false (if false = true then 1 else 0) k = oT text k
 unfold oT
 have e : mapR (fun _ => 1) 0 k (ones 0 ++ zrs (text.length - 0)) = ones k ++ zrs (text.length - k) := by
  apply List.ext_getElem?
  intro i
  rw [mapR_get]
  show Option.map _ (zrs (text.length - 0))[i]? = _
  rcases Nat.lt_or_ge i k with hi | hi
  ·rw [List.getElem?_append_left (by simp [ones]; omega)]
   have hi2 : i < text.length := by omega
   simp [zrs, ones, hi, hi2]
  ·rw [List.getElem?_append_right (by simp [ones]; omega)]
   simp only [zrs, ones, List.getElem?_replicate, List.length_replicate]
   by_cases hlt : i < text.length - 0
   ·rw [if_pos hlt, if_pos (by omega), Option.map_some, if_neg (by omega)]
   ·rw [if_neg hlt, if_neg (by omega)]; rfl
 rw [e]
 rfl
theorem next_idle (text : List UInt8) (k many : Nat) : nextO (oT text k) many = oT text k := by
 unfold nextO
 rw [due_idle text k many]
 show OB.mk text (mapR (fun _ => 1) 0 0 (oT text k).s) false (if false = true then 1 else 0) k = _
 rw [mapR_nil _ _ _ _ (Nat.le_refl _)]
 rfl
structure RA (T : Tb) (s : St) : Prop where
 dom : T.dom = [0]
 m : T.m 0 = s
 tell : T.tell = false
 read : T.read = 0
 data : T.data = 600
 own : T.own = cutP own0
 client : T.client = true
def sA (text : List UInt8) (k : Nat) : St := { st0 300 with out := some (oT text k), inn := some (newI 300), given := k }
theorem RA.upd {T : Tb} {s : St} (h : RA T s) (s' : St) : RA { T with m := updM T.m 0 s' } s' := ⟨h.dom, by show updM T.m 0 s' 0 = s'; rw [updM_same], h.tell, h.read, h.data, h.own, h.client⟩
theorem RA.written (text : List UInt8) (hl : text.length ≤ 200) : RA (wrT tA2 0 text) (sA text 0) := by
 have h : RA tA2 (sA [] 0) := ⟨by kernel_rfl, by kernel_rfl, by kernel_rfl, by kernel_rfl, by kernel_rfl, by kernel_rfl, by kernel_rfl⟩
 have he : wrE tA2 0 = 0 := by kernel_rfl
 have hm : (tA2.m 0) = sA [] 0 := h.m
 unfold wrT
 rw [if_pos he]
 have e : ({ tA2.m 0 with out := (tA2.m 0).out.map (fun o => writeO o text) } : St) = sA text 0 := by
  rw [hm]
  have e2 : writeO (oT [] 0) text = oT text 0 := by
   unfold writeO writeN oT
   simp only [ones, zrs, List.replicate_zero, List.nil_append, List.length_nil, Nat.sub_zero, Bool.false_eq_true, if_false]
   rw [Nat.min_eq_left (by omega), List.take_length]
  show { sA [] 0 with out := some (writeO (oT [] 0) text) } = _
  rw [e2]
  rfl
 rw [show ((0 : Nat) : Int) = 0 from rfl, e]
 exact h.upd (sA text 0)
theorem RA.given {T : Tb} {s : St} (h : RA T s) : givenN T = s.given := by
 unfold givenN sumOn
 rw [h.dom]
 simp [h.m]
theorem RA.raise {T : Tb} {text : List UInt8} {k many : Nat} (h : RA T (sA text k)) (hk : k ≤ text.length) (hl : text.length ≤ 200) :
  nextG T (sA text k) (oT text k) many = (if k < text.length then k + min (text.length - k) many else k) ∧ nextO1 T (sA text k) (oT text k) many = (if k < text.length then { oT text k with lim := k + min (text.length - k) many } else oT text k) := by
 have hw : nextWant (sA text k) (oT text k) = text.length := by unfold nextWant; show min 300 text.length = _; omega
 have hg : givenN T = k := h.given
 have hr : raisesB T (sA text k) (oT text k) = decide (k < text.length) := by
  unfold raisesB
  rw [hw, hg, h.data]
  show (decide (k < text.length) && decide (k < 600)) = _
  rw [decide_eq_true (show k < 600 by omega), Bool.and_true]
 have hn : newGiven T (sA text k) (oT text k) many = k + min (text.length - k) many := by
  unfold newGiven
  rw [hw, hg, h.data]
  show k + min (min (text.length - k) many) (600 - k) = _
  omega
 unfold nextG nextO1
 rw [hr, hn]
 by_cases e : k < text.length
 ·rw [decide_eq_true e, if_pos rfl, if_pos rfl, if_pos e, if_pos e]
  refine ⟨rfl, ?_⟩
  unfold raiseO
  by_cases e2 : k < k + min (text.length - k) many
  ·rw [if_pos (show (oT text k).lim < _ from e2)]
  ·rw [if_neg (show ¬ (oT text k).lim < _ from e2)]
   have : k + min (text.length - k) many = k := by omega
   rw [this]
   rfl
 ·rw [decide_eq_false e, if_neg e, if_neg e]
  exact ⟨rfl, rfl⟩
theorem RA.first {T : Tb} {text : List UInt8} {many : Nat} (h : RA T (sA text 0)) (h0 : 0 < text.length) (hl : text.length ≤ 200) (hm : 0 < many) :
  RA (nextT T 0 (oT text 0) many) (sA text (min text.length many)) ∧ nextF' T 0 (oT text 0) many = streamF 0 0 (text.take (min text.length many)) false ∧ (dueO (nextO1 T (T.m 0) (oT text 0) many) many).ok = true := by
 obtain ⟨h1, h2⟩ := h.raise (many := many) (Nat.zero_le _) hl
 rw [if_pos h0, Nat.zero_add, Nat.sub_zero] at h1 h2
 obtain ⟨n1, n2⟩ := next_first text (min text.length many) many (Nat.min_le_left _ _) (by omega) (Nat.min_le_right _ _)
 have d1 := due_first text (min text.length many) many (Nat.min_le_left _ _) (by omega) (Nat.min_le_right _ _)
 refine ⟨?_, ?_, ?_⟩
 ·unfold nextT
  have e : ({ T.m 0 with given := nextG T (T.m 0) (oT text 0) many, out := some (nextO (nextO1 T (T.m 0) (oT text 0) many) many) } : St) = sA text (min text.length many) := by
   rw [h.m, h1, h2, n1]
   rfl
  rw [show ((0 : Nat) : Int) = 0 from rfl, e]
  exact h.upd _
 ·unfold nextF'
  rw [show ((0 : Nat) : Int) = 0 from rfl, h.m, h2, n2, d1]
 ·rw [h.m, h2, d1]
theorem RA.idle {T : Tb} {text : List UInt8} {many : Nat} (h : RA T (sA text text.length)) (hl : text.length ≤ 200) :
  RA (nextT T 0 (oT text text.length) many) (sA text text.length) ∧ (dueO (nextO1 T (T.m 0) (oT text text.length) many) many).ok = false := by
 obtain ⟨h1, h2⟩ := h.raise (many := many) (Nat.le_refl _) hl
 rw [if_neg (Nat.lt_irrefl _)] at h1 h2
 refine ⟨?_, ?_⟩
 ·unfold nextT
  have e : ({ T.m 0 with given := nextG T (T.m 0) (oT text text.length) many, out := some (nextO (nextO1 T (T.m 0) (oT text text.length) many) many) } : St) = sA text text.length := by
   rw [h.m, h1, h2, next_idle _ _ _]
   rfl
  rw [show ((0 : Nat) : Int) = 0 from rfl, e]
  exact h.upd _
 ·rw [h.m, h2, due_idle _ _ _]
theorem sort00 {T : Tb} {s : St} (h : RA T s) : sortI T.dom = [0] := by rw [h.dom]; exact sort0
theorem frames_first {T : Tb} {text : List UInt8} {room : Int} (h : RA T (sA text 0)) (hl : text.length ≤ 200) (hr : 30 ≤ room ∧ room ≤ 300) :
  ∃ k, k ≤ text.length ∧ (framesO T room).l = (if k = 0 then [] else [streamF 0 0 (text.take k) false]) ∧ RA (framesO T room).T (sA text k) := by
 have hd : dueL (T.m 0) 0 = [] := by rw [h.m]; rfl
 have h1 : phase1 [0] ⟨T, room, [], false⟩ = ⟨T, room, [], false⟩ := by
  show (if (dueStep 0 (dueL (T.m 0) 0) ⟨T, room, [], false⟩).ret then _ else phase1 [] (dueStep 0 (dueL (T.m 0) 0) ⟨T, room, [], false⟩)) = _
  rw [hd]
  rfl
 obtain ⟨T1, hT1⟩ : ∃ T1 : Tb, T1 = { T with tell := false } := ⟨_, rfl⟩
 have h2 : phase2 ⟨T, room, [], false⟩ = ⟨T1, room, [], false⟩ := by
  unfold phase2
  rw [h.tell, if_neg (by decide), hT1]
 have hr1 : RA T1 (sA text 0) := by rw [hT1]; exact ⟨h.dom, h.m, rfl, h.read, h.data, h.own, h.client⟩
 have h3 : framesO T room = phase3 [0] ⟨T1, room, [], false⟩ := framesO_two (L := [0]) (sort00 h) h1 rfl h2
 obtain ⟨R, hR⟩ : ∃ R, R = pump 0 (room.toNat + 1) ⟨T1, room, [], false⟩ := ⟨_, rfl⟩
 have h4 : phase3 [0] ⟨T1, room, [], false⟩ = R := by
  show (if (pump 0 (room.toNat + 1) ⟨T1, room, [], false⟩).ret then pump 0 (room.toNat + 1) ⟨T1, room, [], false⟩ else phase3 [] (pump 0 (room.toNat + 1) ⟨T1, room, [], false⟩)) = R
  rw [← hR]
  split <;> rfl
 rw [h3, h4]
 obtain ⟨n, hn⟩ : ∃ n, room.toNat = n + 1 := ⟨room.toNat - 1, by omega⟩
 rw [hn] at hR
 have ho : ∀ {T : Tb} {k : Nat}, RA T (sA text k) → (T.m (0 : Nat)).out = some (oT text k) ∧ (T.m (0 : Nat)).reset = false := fun {T k} hq => by
  rw [show ((0 : Nat) : Int) = 0 from rfl, hq.m]
  exact ⟨rfl, rfl⟩
 obtain ⟨many, hmany⟩ : ∃ many : Nat, min (room.toNat - 20) 200 = many := ⟨_, rfl⟩
 rcases Nat.eq_zero_or_pos text.length with h0 | h0
 ·have hr2 : RA T1 (sA text text.length) := by rw [h0]; exact hr1
  have e := pump_stop (n := n + 1) (s := ⟨T1, room, [], false⟩) (ho hr2).1 (ho hr2).2 (by dsimp only; omega) hmany (hr2.idle hl).2
  rw [e] at hR
  rw [hR]
  exact ⟨0, Nat.zero_le _, rfl, by have := (hr2.idle (many := many) hl).1; rw [h0] at this; rw [h0]; exact this⟩
 ·obtain ⟨f1, f2, f3⟩ := hr1.first (many := many) h0 hl (by omega)
  have e := pump_go (n := n + 1) (s := ⟨T1, room, [], false⟩) (ho hr1).1 (ho hr1).2 (by dsimp only; omega) hmany f3
  rw [e] at hR
  dsimp only at hR
  rw [f2] at hR
  obtain ⟨k, hk⟩ : ∃ k, min text.length many = k := ⟨_, rfl⟩
  rw [hk] at f1 hR
  refine ⟨k, by omega, ?_⟩
  rw [if_neg (by omega)]
  have sl := stream_len (id := 0) (off := 0) (d := text.take k) (e := false) (Nat.zero_le _) (by rw [List.length_take]; have e0 : topN = 4611686018427387903 := rfl; omega) (by rw [List.length_take]; omega)
  have sl2 : k + 3 ≤ (fputL (streamF 0 0 (text.take k) false)).length := by
   unfold fputL
   rw [if_pos (stream_right (Nat.zero_le _) (by rw [List.length_take]; have e0 : topN = 4611686018427387903 := rfl; omega) (by rw [List.length_take]; omega))]
   simp only [List.length_cons]
   show k + 3 ≤ (bodyN 8 (streamF 0 0 (text.take k) false)).length + 1
   unfold bodyN streamF dataL
   simp only [List.length_append, if_true, List.length_nil]
   have p0 := putL_pos 0 (Nat.zero_le _)
   have p1 := putL_pos (text.take k).length (by rw [List.length_take]; have e0 : topN = 4611686018427387903 := rfl; omega)
   have p2 : (text.take k).length = k := by rw [List.length_take]; omega
   omega
  obtain ⟨sz, hsz⟩ : ∃ sz, (fputL (streamF 0 0 (text.take k) false)).length = sz := ⟨_, rfl⟩
  rw [hsz] at hR sl sl2
  by_cases h21 : room - (sz : Int) < 21
  ·rw [pump_full (n := n) (ho f1).1 (ho f1).2 h21] at hR
   rw [hR]
   exact ⟨rfl, f1⟩
  ·have hkk : k = text.length := by omega
   rw [hkk] at f1
   have e2 := pump_stop (n := n) (s := ⟨nextT T1 0 (oT text 0) many, room - (sz : Int), [] ++ [streamF 0 0 (text.take k) false], false⟩) (many := min ((room - (sz : Int)).toNat - 20) 200) (ho f1).1 (ho f1).2 h21 rfl (f1.idle hl).2
   rw [e2] at hR
   rw [hR, hkk]
   exact ⟨rfl, (f1.idle hl).1⟩
def sR (text : List UInt8) (k code : Nat) (b : Bool) : St := { sA text k with reset := true, code := code, tR := b }
theorem RA.reset {T : Tb} {text : List UInt8} {k : Nat} (h : RA T (sA text k)) {code : Nat} (hc : code ≤ topN) : rsE T 0 = 0 ∧ RA (rsT T 0 code) (sR text k code true) := by
 have e0 : topN = 4611686018427387903 := rfl
 have he : rsE T 0 = 0 := by
  have ho : outPartE T 0 = 0 := by
   unfold outPartE
   rw [show ((0 : Nat) : Int) = 0 from rfl, if_pos ⟨by rw [h.dom]; exact List.mem_cons_self, by rw [h.m]; rfl⟩, h.m]
   rfl
  unfold rsE
  rw [if_neg (by rw [ho]; exact fun e => e rfl), show ((0 : Nat) : Int) = 0 from rfl, h.m]
  rfl
 refine ⟨he, ?_⟩
 unfold rsT
 rw [if_pos he, Nat.min_eq_left (by omega)]
 have e : ({ T.m ((0 : Nat) : Int) with reset := true, code := code, tR := true } : St) = sR text k code true := by
  rw [show ((0 : Nat) : Int) = 0 from rfl, h.m]
  rfl
 rw [e]
 exact h.upd _
theorem frames_still {T : Tb} {s s1 : St} {room : Int} (h : RA T s) (hrs : s1.reset = true) {L : List Fr} {T1 : Tb} {r1 : Int} (h1 : phase1 [0] ⟨T, room, [], false⟩ = ⟨T1, r1, L, false⟩) (hT : RA T1 s1) : (framesO T room).l = L ∧ RA (framesO T room).T s1 := by
 obtain ⟨T2, hT2⟩ : ∃ T2 : Tb, T2 = { T1 with tell := false } := ⟨_, rfl⟩
 have h2 : phase2 ⟨T1, r1, L, false⟩ = ⟨T2, r1, L, false⟩ := by
  unfold phase2
  rw [hT.tell, if_neg (by decide), hT2]
 have hr1 : RA T2 s1 := by rw [hT2]; exact ⟨hT.dom, hT.m, rfl, hT.read, hT.data, hT.own, hT.client⟩
 have h3 : framesO T room = phase3 [0] ⟨T2, r1, L, false⟩ := framesO_two (L := [0]) (sort00 h) h1 rfl h2
 have hp : pump 0 (r1.toNat + 1) ⟨T2, r1, L, false⟩ = ⟨T2, r1, L, false⟩ := by
  cases ho : (T2.m (0 : Nat)).out with
  | none => exact pump_none ho
  | some o => exact pump_reset ho (by rw [show ((0 : Nat) : Int) = 0 from rfl, hr1.m]; exact hrs)
 have h4 : phase3 [0] ⟨T2, r1, L, false⟩ = ⟨T2, r1, L, false⟩ := by
  show (if (pump 0 (r1.toNat + 1) ⟨T2, r1, L, false⟩).ret then pump 0 (r1.toNat + 1) ⟨T2, r1, L, false⟩ else phase3 [] (pump 0 (r1.toNat + 1) ⟨T2, r1, L, false⟩)) = _
  rw [hp]
  rfl
 rw [h3, h4]
 exact ⟨rfl, hr1⟩
theorem frames_reset {T : Tb} {text : List UInt8} {k code : Nat} (hk : k ≤ text.length) (h : RA T (sR text k code true)) : (framesO T 500).l = [resetF 0 k code] ∧ RA (framesO T 500).T (sR text k code false) := by
 have hd : dueL (T.m 0) 0 = [resetF 0 k code] := by
  rw [h.m]
  show (if true = true then [resetF 0 (sentO (oT text k)) code] else []) ++ _ = _
  rw [if_pos rfl, sent_oT hk]
  rfl
 have hf : fitB (resetF 0 k code) 500 = true := by
  have a1 := putL_len 0
  have a2 := putL_len code
  have a3 := putL_len k
  refine decide_eq_true ?_
  unfold fputL
  split
  ·simp only [List.length_cons]
   show (((bodyN 4 (resetF 0 k code)).length + 1 : Nat) : Int) ≤ 500
   unfold bodyN resetF
   simp only [List.length_append]
   omega
  ·simp
 have hu : RA (untell T 0 4) (sR text k code false) := by
  unfold untell
  have e : setTell (T.m ((0 : Nat) : Int)) 4 false = sR text k code false := by
   rw [show ((0 : Nat) : Int) = 0 from rfl, h.m]
   rfl
  rw [e]
  exact h.upd _
 refine frames_still (s1 := sR text k code false) (L := [resetF 0 k code]) (T1 := untell T 0 4) (r1 := 500 - ((fputL (resetF 0 k code)).length : Int)) h rfl ?_ hu
 have hs : dueStep 0 [resetF 0 k code] ⟨T, 500, [], false⟩ = ⟨untell T 0 4, 500 - ((fputL (resetF 0 k code)).length : Int), [resetF 0 k code], false⟩ := by
  show (if fitB (resetF 0 k code) 500 then _ else _) = _
  rw [hf, if_pos rfl]
  rfl
 show (if (dueStep 0 (dueL (T.m 0) 0) ⟨T, 500, [], false⟩).ret then _ else phase1 [] (dueStep 0 (dueL (T.m 0) 0) ⟨T, 500, [], false⟩)) = _
 rw [hd, hs]
 rfl
theorem frames_none {T : Tb} {text : List UInt8} {k code : Nat} (h : RA T (sR text k code false)) : (framesO T 500).l = [] ∧ RA (framesO T 500).T (sR text k code false) := by
 have hd : dueL (T.m 0) 0 = [] := by rw [h.m]; rfl
 refine frames_still (s1 := sR text k code false) (L := []) (T1 := T) (r1 := 500) h rfl ?_ h
 show (if (dueStep 0 (dueL (T.m 0) 0) ⟨T, 500, [], false⟩).ret then _ else phase1 [] (dueStep 0 (dueL (T.m 0) 0) ⟨T, 500, [], false⟩)) = _
 rw [hd]
 rfl
end Go.Proofs.YtolgeghdkoodnaaGreatDoor
set_option maxRecDepth 100000
namespace Go.Proofs.YtolgeghdkoodnaaGreatDoor
open Go.RowKit Go.Maps
theorem FInv.ofRA {T : Tb} {s : St} (h : RA T s) (hs : finvS s = true) : FInv T := by
 apply finv_of
 unfold finvB
 rw [h.dom, h.read]
 simp [h.m, hs]
 decide
theorem finv_sA {text : List UInt8} {k : Nat} (hk : k ≤ text.length) (hl : text.length ≤ 200) : finvS (sA text k) = true := by
 have h := oT_len hk
 have e0 : topN = 4611686018427387903 := rfl
 unfold finvS
 simp only [Bool.and_eq_true, Bool.or_eq_true, Bool.not_eq_true', decide_eq_true_eq]
 refine ⟨⟨⟨⟨⟨⟨⟨?_, ?_⟩, rfl⟩, .inl rfl⟩, .inl (.inl rfl)⟩, ?_⟩, ?_⟩, ?_⟩
 ·exact Nat.zero_le _
 ·show k ≤ 1000000; omega
 ·exact Nat.zero_le _
 ·exact decide_eq_true (show 0 + 300 ≤ topN by omega)
 ·show (decide ((oT text k).s.length ≤ 2000) && decide (text.length ≤ 2000)) = true
  rw [h, decide_eq_true (show text.length ≤ 2000 by omega)]
  rfl
theorem finv_sR {text : List UInt8} {k code : Nat} (hk : k ≤ text.length) (hl : text.length ≤ 200) (hc : code ≤ topN) (b : Bool) : finvS (sR text k code b) = true := by
 have h := oT_len hk
 have e0 : topN = 4611686018427387903 := rfl
 unfold finvS
 simp only [Bool.and_eq_true, Bool.or_eq_true, Bool.not_eq_true', decide_eq_true_eq]
 refine ⟨⟨⟨⟨⟨⟨⟨?_, ?_⟩, rfl⟩, .inr rfl⟩, .inl (.inl rfl)⟩, hc⟩, ?_⟩, ?_⟩
 ·exact Nat.zero_le _
 ·show k ≤ 1000000; omega
 ·exact decide_eq_true (show 0 + 300 ≤ topN by omega)
 ·show (decide ((oT text k).s.length ≤ 2000) && decide (text.length ≤ 2000)) = true
  rw [h, decide_eq_true (show text.length ≤ 2000 by omega)]
  rfl
def outL (text : List UInt8) (k : Nat) : List Fr := if k = 0 then [] else [streamF 0 0 (text.take k) false]
def AtA (W w : World) (l : List Th) (tb mb : Nat) (s : St) (m : List Th) : Prop := ∃ G T, RA T s ∧ At W w (l ++ tabTh W.heap.size tb mb G T :: m)
theorem framesF_s {W w : World} (l : List Th) {tb mb : Nat} {text : List UInt8} {m : List Th} (h : AtA W w l tb mb (sA text 0) m) (hT : Tabs W) (hl : text.length ≤ 200) (room : Int) (hr : 30 ≤ room ∧ room ≤ 300) :
  Calls Tryz.prog 15 #[.pointer (some ⟨tb, 0, none⟩), .int .i64 room] w fun e w' => ∃ k a c D E, k ≤ text.length ∧ e = .returned (.slice a (outL text k).length c) ∧ AtA W w' (frsTh D E (.slice a (outL text k).length c) (outL text k) :: l) tb mb (sA text k) m := by
 obtain ⟨G, T, hq, h⟩ := h
 obtain ⟨k, hk, e1, e2⟩ := frames_first hq hl hr
 have h1 := frames_s l h hT (FInv.ofRA hq (finv_sA (Nat.zero_le _) hl)) room (by omega)
 rw [e1] at h1
 exact h1.mono fun _ _ ⟨a, c, D, E, he, hs, _⟩ => ⟨k, a, c, D, E, hk, he, G, _, e2, hs⟩
theorem framesR_s {W w : World} (l : List Th) {tb mb : Nat} {text : List UInt8} {k code : Nat} {m : List Th} (h : AtA W w l tb mb (sR text k code true) m) (hT : Tabs W) (hk : k ≤ text.length) (hl : text.length ≤ 200) (hc : code ≤ topN) :
  Calls Tryz.prog 15 #[.pointer (some ⟨tb, 0, none⟩), .int .i64 500] w fun e w' => ∃ a c D E, e = .returned (.slice a 1 c) ∧ AtA W w' (frsTh D E (.slice a 1 c) [resetF 0 k code] :: l) tb mb (sR text k code false) m := by
 obtain ⟨G, T, hq, h⟩ := h
 obtain ⟨e1, e2⟩ := frames_reset hk hq
 have h1 := frames_s l h hT (FInv.ofRA hq (finv_sR hk hl hc true)) 500 (by decide)
 rw [e1] at h1
 exact h1.mono fun _ _ ⟨a, c, D, E, he, hs, _⟩ => ⟨a, c, D, E, he, G, _, e2, hs⟩
theorem framesN_s {W w : World} (l : List Th) {tb mb : Nat} {text : List UInt8} {k code : Nat} {m : List Th} (h : AtA W w l tb mb (sR text k code false) m) (hT : Tabs W) (hk : k ≤ text.length) (hl : text.length ≤ 200) (hc : code ≤ topN) :
  Calls Tryz.prog 15 #[.pointer (some ⟨tb, 0, none⟩), .int .i64 500] w fun e w' => ∃ a c D E, e = .returned (.slice a 0 c) ∧ AtA W w' (frsTh D E (.slice a 0 c) [] :: l) tb mb (sR text k code false) m := by
 obtain ⟨G, T, hq, h⟩ := h
 obtain ⟨e1, e2⟩ := frames_none hq
 have h1 := frames_s l h hT (FInv.ofRA hq (finv_sR hk hl hc false)) 500 (by decide)
 rw [e1] at h1
 exact h1.mono fun _ _ ⟨a, c, D, E, he, hs, _⟩ => ⟨a, c, D, E, he, G, _, e2, hs⟩
theorem ok0 : okId 0 := by unfold okId; decide
theorem writeF_s {W w : World} (l : List Th) {tb mb : Nat} {G : Int → SM} {m : List Th} (h : At W w (l ++ tabTh W.heap.size tb mb G tA2 :: m)) {text : List UInt8} (hl : text.length ≤ 200) {dv : Value} (hd : Byts w dv text) :
  Calls Tryz.prog 14 #[.pointer (some ⟨tb, 0, none⟩), .int .u64 0, dv] w fun e w' => ∃ x, e = .returned x ∧ AtA W w' l tb mb (sA text 0) m :=
 (write_s l h ok0 hd (by omega)).mono fun _ _ ⟨he, G', hs⟩ => ⟨_, he, G', _, RA.written text hl, hs⟩
theorem resetK_s {W w : World} (l : List Th) {tb mb : Nat} {text : List UInt8} {k : Nat} {m : List Th} (h : AtA W w l tb mb (sA text k) m) {code : Nat} (hc : code ≤ topN) :
  Calls Tryz.prog 18 #[.pointer (some ⟨tb, 0, none⟩), .int .u64 0, .int .u64 (code : Int)] w fun e w' => e = .returned (.int .i64 0) ∧ AtA W w' l tb mb (sR text k code true) m := by
 obtain ⟨G, T, hq, h⟩ := h
 obtain ⟨e1, e2⟩ := hq.reset hc
 have h1 := reset_s l h ok0 code
 rw [e1] at h1
 exact h1.mono fun _ _ ⟨he, G', hs⟩ => ⟨he, G', _, e2, hs⟩
theorem writeR_s {W w : World} (l : List Th) {tb mb : Nat} {text : List UInt8} {k code : Nat} {m : List Th} (h : AtA W w l tb mb (sR text k code false) m) (hl : text.length ≤ 200) {dv : Value} (hd : Byts w dv text) :
  Calls Tryz.prog 14 #[.pointer (some ⟨tb, 0, none⟩), .int .u64 0, dv] w fun e w' => e = .returned (.tuple #[.int .i64 0, .int .i64 8]) ∧ AtA W w' l tb mb (sR text k code false) m := by
 obtain ⟨G, T, hq, h⟩ := h
 have e0 : outPartE T 0 = 8 := by
  unfold outPartE
  rw [show ((0 : Nat) : Int) = 0 from rfl, if_pos ⟨by rw [hq.dom]; exact List.mem_cons_self, by rw [hq.m]; rfl⟩, hq.m]
  rfl
 have e1 : wrE T 0 = 8 := by
  unfold wrE
  rw [if_pos (by rw [e0]; decide), e0]
 have e2 : wrN T 0 text = 0 := by unfold wrN; rw [if_neg (by rw [e1]; decide)]
 have e3 : wrT T 0 text = T := by unfold wrT; rw [if_neg (by rw [e1]; decide)]
 have h1 := write_s l h ok0 hd (by omega)
 rw [e1, e2, e3] at h1
 exact h1.mono fun _ _ ⟨he, G', hs⟩ => ⟨he, G', _, hq, hs⟩
def tP1 : Tb := peerT (newT false own0) own0
def tP2 (text : List UInt8) (k : Nat) : Tb := if k = 0 then tP1 else comeT tP1 0 0 (text.take k) false
theorem smallP : Small tP1 := (finv_of (T := tP1) (by kernel_rfl)).small
theorem come_first {k : Nat} (hk : k ≤ 200) : ComeOk tP1 0 0 k false := by
 refine ⟨by kernel_rfl, fun h => (by cases h), by omega, ?_, ?_⟩
 ·show (decide (0 + k ≤ 0) || decide (0 + (0 + k) - 0 ≤ 0 + 600)) = true
  rw [decide_eq_true (show 0 + (0 + k) - 0 ≤ 0 + 600 by omega), Bool.or_true]
 ·show putErr (newI 300) 0 k false = 0
  unfold putErr
  rw [if_neg (show ¬ (newI 300).read + (newI 300).win < 0 + k from by show ¬ 0 + 300 < 0 + k; omega), if_neg (by unfold badFin; simp [newI])]
structure RB (T : Tb) (k : Nat) : Prop where
 dom : T.dom = [0]
 m : ∃ o, T.m 0 = { st0 300 with out := some (newO 0), inn := some o } ∧ o.top = k ∧ o.known = false ∧ o.read = 0 ∧ o.win = 300
 read : T.read = 0
 own : T.own = cutP own0
 client : T.client = false
theorem putI_fst {o : IB} {off : Nat} {data : List UInt8} {last : Bool} (h : putErr o off data.length last = 0) : (putI o off data last).top = max o.top (off + data.length) ∧ (putI o off data last).known = (o.known || last) ∧ (putI o off data last).read = o.read ∧ (putI o off data last).win = o.win := by
 unfold putI
 rw [if_pos h]
 exact ⟨rfl, rfl, rfl, rfl⟩
theorem RB.come {text : List UInt8} {k : Nat} (hk : k ≤ text.length) (hl : text.length ≤ 200) (h0 : k ≠ 0) : RB (tP2 text k) k := by
 have hlen : (text.take k).length = k := by rw [List.length_take]; omega
 have hp := (come_first (k := k) (by omega)).put
 have hd : ¬ ((0 : Nat) : Int) ∈ tP1.dom := fun h => (by cases h)
 have hp2 : putErr (inO tP1 0) 0 (text.take k).length false = 0 := by rw [hlen]; exact hp
 obtain ⟨a1, a2, a3, a4⟩ := putI_fst (data := text.take k) hp2
 unfold tP2 comeT
 rw [if_neg h0, if_neg hd]
 refine ⟨(by show (mkT tP1 0).dom = [0]; kernel_rfl), ⟨putI (inO tP1 0) 0 (text.take k) false, ?_, ?_, ?_, ?_, ?_⟩, rfl, rfl, rfl⟩
 ·have e : (mkT tP1 0).m ((0 : Nat) : Int) = { st0 300 with out := some (newO 0), inn := some (newI 300) } := by kernel_rfl
  rw [e]
  exact updM_same (mkT tP1 0).m 0 _
 ·rw [a1, hlen]; show max 0 (0 + k) = k; omega
 ·rw [a2]; rfl
 ·rw [a3]; rfl
 ·rw [a4]; rfl
theorem comeR {text : List UInt8} {k : Nat} (hk : k ≤ text.length) (hl : text.length ≤ 200) : ComeOk (tP2 text k) 0 k 0 true ∧ Small (tP2 text k) ∧ (comeT (tP2 text k) 0 k [] true).dom = [0] ∧
  ((comeT (tP2 text k) 0 k [] true).m 0).taken ≤ topS ((comeT (tP2 text k) 0 k [] true).m 0) ∧ topS ((comeT (tP2 text k) 0 k [] true).m 0) ≤ 1000000 := by
 by_cases h0 : k = 0
 ·subst h0
  have e : tP2 text 0 = tP1 := rfl
  rw [e]
  exact ⟨⟨by kernel_rfl, fun h => (by cases h), by decide, by kernel_rfl, by kernel_rfl⟩, smallP, by kernel_rfl, by decide +kernel, by decide +kernel⟩
 ·have h := RB.come hk hl h0
  generalize tP2 text k = T at *
  obtain ⟨o, hm, h1, h2, h3, h4⟩ := h.m
  have hz : ((0 : Nat) : Int) ∈ T.dom := by rw [h.dom]; exact List.mem_cons_self
  have ei : inO T 0 = o := by
   unfold inO inOf
   rw [if_pos hz, show ((0 : Nat) : Int) = 0 from rfl, hm]
   rfl
  have ht : topS (T.m 0) = k := by rw [hm]; exact h1
  have hp : putErr o k 0 true = 0 := by
   unfold putErr
   rw [if_neg (by omega), if_neg (by unfold badFin; rw [h1, h2]; simp)]
  obtain ⟨a1, -, -, -⟩ := putI_fst (o := o) (off := k) (data := []) (last := true) hp
  have ec : comeT T 0 k [] true = { T with m := updM T.m 0 { T.m 0 with inn := some (putI o k [] true) } } := by
   unfold comeT
   rw [if_pos hz, ei]
   rfl
  have et : topS ((comeT T 0 k [] true).m 0) = k := by
   rw [ec]
   show topS (updM T.m 0 { T.m 0 with inn := some (putI o k [] true) } 0) = k
   rw [updM_same]
   show (putI o k [] true).top = k
   rw [a1, h1]
   show max k (k + 0) = k
   omega
  refine ⟨⟨?_, fun _ => ⟨by rw [show ((0 : Nat) : Int) = 0 from rfl, hm]; rfl, o, by rw [show ((0 : Nat) : Int) = 0 from rfl, hm]⟩, by omega, ?_, by rw [ei]; exact hp⟩, ⟨by rw [h.dom]; decide, fun z hz2 => ?_, fun z hz2 => ?_, by rw [h.read]; decide⟩, by rw [ec]; exact h.dom, ?_, by rw [et]; omega⟩
  ·unfold findE
   rw [h.client, if_neg (by decide), if_pos hz]
  ·unfold risesB
   rw [if_pos hz]
   show (decide (k + 0 ≤ topS (T.m 0)) || _) = true
   rw [ht, decide_eq_true (show k + 0 ≤ k by omega), Bool.true_or]
  ·rw [h.dom] at hz2
   have : z = 0 := by simpa using hz2
   rw [this, ht]
   omega
  ·rw [h.dom] at hz2
   have : z = 0 := by simpa using hz2
   rw [this, hm]
   exact Nat.zero_le _
  ·rw [ec]
   show (updM T.m 0 { T.m 0 with inn := some (putI o k [] true) } 0).taken ≤ _
   rw [updM_same, hm]
   exact Nat.zero_le _
def tP3 (text : List UInt8) (k code : Nat) : Tb := resetT (tP2 text k) 0 k code
theorem endP {text : List UInt8} {k code : Nat} (hk : k ≤ text.length) (hl : text.length ≤ 200) : (tP3 text k code).dom = [0] ∧ ((tP3 text k code).m 0).over = true ∧ ((tP3 text k code).m 0).in2 = code ∧ ((tP3 text k code).m 0).inn.isSome = true := by
 obtain ⟨hi, -⟩ := comeT_inn (tP2 text k) 0 k [] true
 have e : (tP3 text k code).m 0 = overS ((comeT (tP2 text k) 0 k [] true).m 0) code := by
  show updM (comeT (tP2 text k) 0 k [] true).m ((0 : Nat) : Int) (overS ((comeT (tP2 text k) 0 k [] true).m ((0 : Nat) : Int)) code) 0 = _
  rw [show ((0 : Nat) : Int) = 0 from rfl, updM_same]
 refine ⟨(comeR hk hl).2.2.1, ?_, ?_, ?_⟩
 ·rw [e]; rfl
 ·rw [e]; rfl
 ·rw [e]
  show ((comeT (tP2 text k) 0 k [] true).m ((0 : Nat) : Int)).inn.isSome = true
  rw [hi]
  rfl
end Go.Proofs.YtolgeghdkoodnaaGreatDoor
set_option maxRecDepth 100000
namespace Go.Proofs.YtolgeghdkoodnaaGreatDoor
open Go.RowKit Go.Maps
theorem Mod.none_belowS {w w' : World} (h : Mod (fun _ => False) w w') : Below w.heap.size w w' := h.below (Nat.le_refl _) (fun _ _ h => h.elim)
theorem At.byts {W w : World} {l : List Th} (h : At W w l) {v : Value} {bs : List UInt8} (hb : Byts W v bs) : Byts w v bs := byts_kept hb h.fin
theorem AtA.byts {W w : World} {l : List Th} {tb mb : Nat} {s : St} {m : List Th} (h : AtA W w l tb mb s m) {v : Value} {bs : List UInt8} (hb : Byts W v bs) : Byts w v bs := by
 obtain ⟨G, T, -, h⟩ := h
 exact h.byts hb
theorem AtA.fin {W w : World} {l : List Th} {tb mb : Nat} {s : St} {m : List Th} (h : AtA W w l tb mb s m) : Mod (fun _ => False) W w := by
 obtain ⟨G, T, -, h⟩ := h
 exact h.fin
theorem AtA.still {W w w' : World} {l : List Th} {tb mb : Nat} {s : St} {m : List Th} (h : AtA W w l tb mb s m) (hM : Mod (fun _ => False) w w') : AtA W w' l tb mb s m := by
 obtain ⟨G, T, hq, h⟩ := h
 exact ⟨G, T, hq, h.still hM⟩
structure AtB (W w : World) (ta ma tb mb : Nat) (s : St) (T : Tb) (l : List Th) : Prop where
 h : ∃ Ga Ta Gb, RA Ta s ∧ At W w (l ++ [tabTh W.heap.size tb mb Gb T, tabTh W.heap.size ta ma Ga Ta])
theorem AtB.a {W w : World} {ta ma tb mb : Nat} {s : St} {T : Tb} {l : List Th} (h : AtB W w ta ma tb mb s T l) : ∃ Gb, AtA W w (l ++ [tabTh W.heap.size tb mb Gb T]) ta ma s [] := by
 obtain ⟨Ga, Ta, Gb, hq, hs⟩ := h
 exact ⟨Gb, Ga, Ta, hq, by rw [List.append_assoc]; exact hs⟩
theorem AtB.of {W w : World} {ta ma tb mb : Nat} {s : St} {T : Tb} {l : List Th} {Gb : Int → SM} (h : AtA W w (l ++ [tabTh W.heap.size tb mb Gb T]) ta ma s []) : AtB W w ta ma tb mb s T l := by
 obtain ⟨Ga, Ta, hq, hs⟩ := h
 exact ⟨Ga, Ta, Gb, hq, by rw [List.append_assoc] at hs; exact hs⟩
theorem AtB.ofC {W w : World} {ta ma tb mb : Nat} {s : St} {T : Tb} {l : List Th} {Gb : Int → SM} {x : Th} (h : AtA W w (x :: (l ++ [tabTh W.heap.size tb mb Gb T])) ta ma s []) : AtB W w ta ma tb mb s T (x :: l) := AtB.of (l := x :: l) h
theorem AtB.fin {W w : World} {ta ma tb mb : Nat} {s : St} {T : Tb} {l : List Th} (h : AtB W w ta ma tb mb s T l) : Mod (fun _ => False) W w := by
 obtain ⟨Ga, Ta, Gb, hq, hs⟩ := h
 exact hs.fin
theorem AtB.byts {W w : World} {ta ma tb mb : Nat} {s : St} {T : Tb} {l : List Th} (h : AtB W w ta ma tb mb s T l) {v : Value} {bs : List UInt8} (hb : Byts W v bs) : Byts w v bs := byts_kept hb h.fin
theorem AtB.frame {W w : World} {ta ma tb mb : Nat} {s : St} {T : Tb} {l : List Th} {D E n c : Nat} {a : Option Addr} {L : List Fr} (h : AtB W w ta ma tb mb s T (frsTh D E (.slice a n c) L :: l)) {i : Nat} {f : Fr} (hi : L[i]? = some f) (hd : (f.d.length : Int) ≤ 1000000) :
  ∃ g vd, a = some ⟨g, 0, none⟩ ∧ FrV w f vd nilS ∧ w.rangeAt g (i * 24) (frL f vd nilS) := by
 obtain ⟨Ga, Ta, Gb, hq, hs⟩ := h
 exact At.frame (l := []) hs hi hd
theorem takeF_s {W w : World} {l : List Th} {ta ma tb mb : Nat} {s : St} {text : List UInt8} {k : Nat} (h : AtB W w ta ma tb mb s tP1 l) (hk : k ≤ text.length) (hl : text.length ≤ 200) (h0 : k ≠ 0) {vd vr : Value} (hf : FrV w (streamF 0 0 (text.take k) false) vd vr) :
  Calls Tryz.prog 17 #[.pointer (some ⟨tb, 0, none⟩), .agg (frC (streamF 0 0 (text.take k) false) vd vr)] w fun e w' => e = .returned (.int .i64 0) ∧ AtB W w' ta ma tb mb s (tP2 text k) l := by
 obtain ⟨Ga, Ta, Gb, hq, hs⟩ := h
 have h1 := take8_s l hs hf rfl (show ((0 : Nat) : Int) < 4611686018427387912 by decide) smallP (by
  show ComeOk tP1 0 0 (text.take k).length false
  rw [show (text.take k).length = k by rw [List.length_take]; omega]
  exact come_first (by omega))
 exact h1.mono fun _ _ ⟨he, G', hs'⟩ => ⟨he, Ga, Ta, G', hq, by unfold tP2; rw [if_neg h0]; exact hs'⟩
theorem takeR_s {W w : World} {l : List Th} {ta ma tb mb : Nat} {s : St} {text : List UInt8} {k code : Nat} (h : AtB W w ta ma tb mb s (tP2 text k) l) (hk : k ≤ text.length) (hl : text.length ≤ 200) (hc : code ≤ topN) {vd vr : Value} (hf : FrV w (resetF 0 k code) vd vr) :
  Calls Tryz.prog 17 #[.pointer (some ⟨tb, 0, none⟩), .agg (frC (resetF 0 k code) vd vr)] w fun e w' => e = .returned (.int .i64 0) ∧ AtB W w' ta ma tb mb s (tP3 text k code) l := by
 obtain ⟨Ga, Ta, Gb, hq, hs⟩ := h
 obtain ⟨c1, c2, -, c4, c5⟩ := comeR hk hl
 have e0 : topN = 4611686018427387903 := rfl
 refine (take_by (hs.get l) hf.t (f := resetF 0 k code) (.inr (.inl rfl)) (n := 42) rfl (T' := tP3 text k code) (fun w1 hM => ?_)).mono fun _ _ ⟨he, hc⟩ => ?_
 ·exact takeReset_any ((show TBuf _ _ _ _ _ _ from hs.get l).still hM) (f := resetF 0 k code) hf.t (show ((0 : Nat) : Int) < 4611686018427387912 by decide) c2 c1 (by unfold nat64; show ((code : Nat) : Int) ≤ _; omega) c4 c5
 ·obtain ⟨G', hs'⟩ := hs.tab l hc
  exact ⟨he, Ga, Ta, G', hq, hs'⟩
theorem codeP_s {W w : World} {l : List Th} {ta ma tb mb : Nat} {s : St} {text : List UInt8} {k code : Nat} (h : AtB W w ta ma tb mb s (tP3 text k code) l) (hk : k ≤ text.length) (hl : text.length ≤ 200) :
  Calls Tryz.prog 19 #[.pointer (some ⟨tb, 0, none⟩), .int .u64 0] w fun e w' => w = w' ∧ e = .returned (.tuple #[.int .u64 (code : Int), .bool true]) := by
 obtain ⟨Ga, Ta, Gb, hq, hs⟩ := h
 obtain ⟨e1, e2, e3, e4⟩ := endP (code := code) hk hl
 have h1 := code_s l hs ok0
 have c1 : codeV (tP3 text k code) 0 = code := by
  unfold codeV
  rw [show ((0 : Nat) : Int) = 0 from rfl, if_pos (by rw [e1]; exact List.mem_cons_self), e2, if_pos rfl, e3]
 have c2 : codeB (tP3 text k code) 0 = true := by
  unfold codeB
  rw [show ((0 : Nat) : Int) = 0 from rfl, if_pos (by rw [e1]; exact List.mem_cons_self), e2]
 rw [c1, c2] at h1
 exact h1
theorem readP_s {W w : World} {l : List Th} {ta ma tb mb : Nat} {s : St} {text : List UInt8} {k code : Nat} (h : AtB W w ta ma tb mb s (tP3 text k code) l) (hk : k ≤ text.length) (hl : text.length ≤ 200) (hr : (tP3 text k code).read ≤ 2000000000) (hr2 : ((tP3 text k code).m 0).taken ≤ 2000000000) :
  Calls Tryz.prog 20 #[.pointer (some ⟨tb, 0, none⟩), .int .u64 0, .int .i64 9] w fun e w' => ∃ a c, e = .returned (.tuple #[.slice a 0 c, .bool false, .int .i64 8]) ∧ AtB W w' ta ma tb mb s (tP3 text k code) (rowTh W.heap.size (.slice a 0 c) [] :: l) := by
 obtain ⟨Ga, Ta, Gb, hq, hs⟩ := h
 obtain ⟨e1, e2, e3, e4⟩ := endP (code := code) hk hl
 have hp : inPartE (tP3 text k code) 0 = 8 := by
  unfold inPartE
  rw [show ((0 : Nat) : Int) = 0 from rfl, if_pos ⟨by rw [e1]; exact List.mem_cons_self, e4⟩, if_pos e2]
 have h1 := read_s l hs ok0 9 (by decide) hr hr2 (TS_read _ _ _ _ _ _)
 have c1 : rdB (tP3 text k code) 0 9 = [] := by unfold rdB; rw [if_neg (by rw [hp]; decide)]
 have c2 : rdD (tP3 text k code) 0 9 = false := by unfold rdD; rw [if_neg (by rw [hp]; decide)]
 have c3 : rdT (tP3 text k code) 0 9 = tP3 text k code := by unfold rdT; rw [if_neg (by rw [hp]; decide)]
 rw [c1, c2, c3, hp] at h1
 exact h1.mono fun _ _ ⟨a, c, he, hs'⟩ => ⟨a, c, he, Ga, Ta, Gb, hq, hs'⟩
theorem heldP_s {W w : World} {l : List Th} {ta ma tb mb : Nat} {s : St} {text : List UInt8} {k code : Nat} (h : AtB W w ta ma tb mb s (tP3 text k code) l) (hk : k ≤ text.length) (hl : text.length ≤ 200) :
  Calls Tryz.prog 21 #[.pointer (some ⟨tb, 0, none⟩)] w fun e w' => e = .returned (.int .i64 0) ∧ AtB W w' ta ma tb mb s (tP3 text k code) l := by
 obtain ⟨Ga, Ta, Gb, hq, hs⟩ := h
 obtain ⟨e1, e2, e3, e4⟩ := endP (code := code) hk hl
 have h1 := held_s l hs (by rw [e1]; decide)
 have c1 : heldN (tP3 text k code) (sortI (tP3 text k code).dom) = 0 := by
  rw [e1, sort0]
  unfold heldN heldS
  simp [e2]
 rw [c1] at h1
 exact h1.mono fun _ _ ⟨he, hs'⟩ => ⟨he, Ga, Ta, Gb, hq, hs'⟩
theorem takenP {text : List UInt8} {k code : Nat} (hk : k ≤ text.length) (hl : text.length ≤ 200) : (tP3 text k code).read ≤ 2000000000 ∧ ((tP3 text k code).m 0).taken ≤ 2000000000 := by
 obtain ⟨-, c2, -, -, c5⟩ := comeR hk hl
 have e : (tP3 text k code).m 0 = overS ((comeT (tP2 text k) 0 k [] true).m 0) code := by
  show updM (comeT (tP2 text k) 0 k [] true).m ((0 : Nat) : Int) (overS ((comeT (tP2 text k) 0 k [] true).m ((0 : Nat) : Int)) code) 0 = _
  rw [show ((0 : Nat) : Int) = 0 from rfl, updM_same]
 constructor
 ·show (comeT (tP2 text k) 0 k [] true).read + (topS ((comeT (tP2 text k) 0 k [] true).m 0) - ((comeT (tP2 text k) 0 k [] true).m 0).taken) ≤ _
  have e2 : (comeT (tP2 text k) 0 k [] true).read = 0 := by
   have e3 : (comeT (tP2 text k) 0 k [] true).read = (tP2 text k).read := by unfold comeT; split <;> rfl
   rw [e3]
   by_cases h0 : k = 0
   ·subst h0; rfl
   ·exact (RB.come hk hl h0).read
  omega
 ·rw [e]
  show topS ((comeT (tP2 text k) 0 k [] true).m 0) ≤ _
  omega
end Go.Proofs.YtolgeghdkoodnaaGreatDoor
set_option maxRecDepth 100000
namespace Go.Proofs.YtolgeghdkoodnaaGreatDoor
open Go.RowKit Go.Maps
set_option maxHeartbeats 8000000 in
set_option maxRecDepth 10000 in
theorem resets_any {W : World} (hT : Tabs W) (code at' : Nat) {v : Value} {text : List UInt8} (hb : Byts W v text) (x : Int) (hx : 0 ≤ x ∧ x ≤ 255) :
  Calls Tryz.prog 5 #[.int .u64 (code : Int), .int .u64 (at' : Int), v, .int .u8 x] W fun e w' => e = .returned (.bool true) ∧ Below W.heap.size W w' := by
 obtain ⟨va, vc, rfl, -⟩ := Sl.val hb
 have HT := Lib.hid hT
 have HB := Lib.hid hb
 have HOWN := Lib.hid own_any
 have HAL := Lib.hid (alive_any W hT)
 have e0 : topN = 4611686018427387903 := rfl
 by_cases hl : text.length ≤ 200
 ·have t1 : decide ((200 : Int) < (text.length : Int)) = false := decide_eq_false (by omega)
  have t1' : decide (200 < text.length) = false := decide_eq_false (by omega)
  by_cases hc : code ≤ topN
  ·have t2 : decide ((4611686018427387903 : Int) < (code : Int)) = false := decide_eq_false (by omega)
   have u1 : IntKind.i64.wrap x = x := IntWalk.i64_in _ (by omega)
   have u2 : IntKind.i64.wrap (30 + x) = 30 + x := IntWalk.i64_in _ (by omega)
   have HX : Hid (30 ≤ 30 + x ∧ 30 + x ≤ 300) := Lib.hid (by omega)
   have HL := Lib.hid hl
   have HC := Lib.hid hc
   clear hT hb hx hl hc e0
   generalize hn : text.length = n at *
   have HN := Lib.hid hn
   clear hn
   generalize hz : (code : Int) = z at *
   have HZ := Lib.hid hz
   clear hz
   go_enter Tryz.func5, Tryz.ntmps5
   go_wp2_with (first
    | (go_at_call 7; (with_reducible refine HAL.out.mono ?_); rintro e w0 ⟨rfl, hm⟩; have HS0 := Lib.hid ((At.start W).still hm); clear hm)
    | (go_at_call 9; (with_reducible refine (HOWN.out _).mono ?_); rintro e w1 ⟨rfl, hm⟩; have HS1 := Lib.hid (HS0.out.still hm); clear hm)
    | (go_at_call 8; (have HQ := Lib.hid (new_s HS1.out true (p := own0) rfl rfl)); (with_reducible refine HQ.out.mono ?_); clear HQ; rintro e w2 ⟨ta, ma, Ga, rfl, hs⟩; have HS2 := Lib.hid hs; clear hs)
    | (go_at_call 9; (with_reducible refine (HOWN.out _).mono ?_); rintro e w3 ⟨rfl, hm⟩; have HS3 := Lib.hid (HS2.out.still hm); clear hm)
    | (go_at_call 8; (have HQ := Lib.hid (new_s HS3.out false (p := own0) rfl rfl)); (with_reducible refine HQ.out.mono ?_); clear HQ; rintro e w4 ⟨tb, mb, Gb, rfl, hs⟩; have HS4 := Lib.hid hs; clear hs)
    | (go_at_call 9; (with_reducible refine (HOWN.out _).mono ?_); rintro e w5 ⟨rfl, hm⟩; have HS5 := Lib.hid (HS4.out.still hm); clear hm)
    | (go_at_call 10; (have HQ := Lib.hid (peer_s [_] HS5.out (p := own0) rfl rfl)); (with_reducible refine HQ.out.mono ?_); clear HQ; rintro e w6 ⟨rfl, G6, hs⟩; (try simp only [List.cons_append, List.nil_append] at hs); have HS6 := Lib.hid hs; clear hs)
    | (go_at_call 9; (with_reducible refine (HOWN.out _).mono ?_); rintro e w7 ⟨rfl, hm⟩; have HS7 := Lib.hid (HS6.out.still hm); clear hm)
    | (go_at_call 10; (have HQ := Lib.hid (peer_s [] HS7.out (p := own0) rfl rfl)); (with_reducible refine HQ.out.mono ?_); clear HQ; rintro e w8 ⟨rfl, G8, hs⟩; simp only [List.nil_append] at hs; have HS8 := Lib.hid hs; clear hs)
    | (go_at_call 11; (have HQ := Lib.hid (openA1_s [_] HS8.out)); (with_reducible refine HQ.out.mono ?_); clear HQ; rintro e w9 ⟨rfl, G9, hs⟩; (try simp only [List.cons_append, List.nil_append] at hs); have HS9 := Lib.hid hs; clear hs)
    | (go_at_call 14; (have HQ := Lib.hid (by have h := writeF_s [_] HS9.out (by rw [HN.out]; exact HL.out) (HS9.out.byts HB.out); exact h)); (with_reducible refine HQ.out.mono ?_); clear HQ; rintro e w10 ⟨xv, rfl, hs⟩; have HS10 := Lib.hid (AtB.of (l := []) hs); clear hs)
    | (go_at_call 15; (obtain ⟨G10, h10⟩ := HS10.out.a); (have HQ := Lib.hid (framesF_s _ h10 HT.out (by rw [HN.out]; exact HL.out) (30 + x) HX.out)); (with_reducible refine HQ.out.mono ?_); clear HQ h10; rintro e w11 ⟨k, al, cl, D, E, hk, rfl, hs⟩; have HS11 := Lib.hid (AtB.ofC hs); have HK := Lib.hid hk; clear hs hk)
    | fail)
   obtain ⟨L, hL⟩ : ∃ L, outL text k = L := ⟨_, rfl⟩
   rw [hL] at HS11
   simp only [hL]
   have HLL := Lib.hid hL
   clear hL
   have hnb : (L.length : Int) ≤ 1 := by rw [← HLL.out]; unfold outL; split <;> simp
   generalize hm : L.length = m at *
   have HM := Lib.hid hm
   clear hm
   go_loopw [14] (fun s14 wr => ∃ i : Nat, i ≤ m ∧ s14 = .int .i64 i ∧ Hid (AtB W wr ta ma tb mb (sA text k) (if i = 0 then tP1 else tP2 text k) [frsTh D E (.slice al m cl) L])) (fun s14 _ => m - (intOf s14).toNat)
   case atStart => exact ⟨0, Nat.zero_le _, rfl, Lib.hid HS11.out⟩
   case round =>
    obtain ⟨i, him, rfl, HI⟩ := hrel
    by_cases hi : i < m
    ·have hi0 : i = 0 := by omega
     have hk0 : k ≠ 0 := fun e => by
      have h1 := HM.out
      rw [← HLL.out] at h1
      unfold outL at h1
      rw [if_pos e] at h1
      simp at h1
      omega
     have hLi : L[i]? = some (streamF 0 0 (text.take k) false) := by
      rw [← HLL.out, hi0]
      unfold outL
      rw [if_neg hk0]
      rfl
     have HI1 : Hid (AtB W wr ta ma tb mb (sA text k) tP1 [frsTh D E (.slice al m cl) L]) := Lib.hid (by have h := HI.out; rw [if_pos hi0] at h; exact h)
     obtain ⟨g, vd, rfl, hv, hr⟩ := HI1.out.frame hLi (by have h1 := HK.out; have h2 := HL.out; have h3 := HN.out; show (((text.take k).length : Nat) : Int) ≤ 1000000; rw [List.length_take]; omega)
     have HV := Lib.hid hv
     have HLD : Hid ((Instr.loadAt 52 (.pointer (some ⟨g, i * 24, none⟩))).run Tryz.prog wr = .ok (.agg (frC (streamF 0 0 (text.take k) false) vd nilS)) wr) := Lib.hid (run_loadAt_mid wr g (i * 24) 52 (frL (streamF 0 0 (text.take k) false) vd nilS) _ hr Tryz.underlying52 rfl (sizeFrR (streamF 0 0 (text.take k) false) vd nilS rfl))
     have HK0 := Lib.hid hk0
     have HI0 := Lib.hid hi0
     have ti : decide ((i : Int) < (m : Int)) = true := decide_eq_true (by omega)
     have ti' : decide (i < m) = true := decide_eq_true hi
     clear hi0 hk0 hLi hv hr
     go_wp2_with (first
      | ((with_reducible refine wpList_load_g 52 (.tmp 65) ?_ ?_ (.pointer (some ⟨g, i * 24, none⟩)) (.agg (frC (streamF 0 0 (text.take k) false) vd nilS)) ?_ HLD.out ?_); (· exact rfl); (· exact rfl); (· exact rfl))
      | (go_at_call 17; (have HQ := Lib.hid (takeF_s HI1.out HK.out (by rw [HN.out]; exact HL.out) HK0.out HV.out)); (with_reducible refine HQ.out.mono ?_); clear HQ; rintro e w12 ⟨rfl, hs⟩; have HS12 := Lib.hid hs; clear hs)
      | fail)
     go_roundw
     case rel => exact ⟨i + 1, by omega, by simp, Lib.hid (by rw [if_neg (Nat.succ_ne_zero i)]; exact HS12.out)⟩
     case measure => simp [intOf]; omega
    ·have ti : decide ((i : Int) < (m : Int)) = false := decide_eq_false (by omega)
     have ti' : decide (i < m) = false := decide_eq_false hi
     have HS13 : Hid (AtB W wr ta ma tb mb (sA text k) (tP2 text k) [frsTh D E (.slice al m cl) L]) := Lib.hid (by
      have h := HI.out
      by_cases hk0 : k = 0
      ·have e : tP2 text k = tP1 := by unfold tP2; rw [if_pos hk0]
       rw [e]
       split at h
       ·exact h
       ·rw [e] at h; exact h
      ·have h1 := HM.out
       rw [← HLL.out] at h1
       unfold outL at h1
       rw [if_neg hk0] at h1
       simp at h1
       rw [if_neg (by omega)] at h
       exact h)
     clear HI
     go_wp2_with (first
      | (go_at_call 18; (obtain ⟨G13, h13⟩ := HS13.out.a); (have HQ := Lib.hid (by have h := resetK_s _ h13 HC.out; rw [HZ.out] at h; exact h)); (with_reducible refine HQ.out.mono ?_); clear HQ; rintro e w14 ⟨rfl, hs⟩; have HS14 := Lib.hid (AtB.of hs); clear hs h13)
      | (go_at_call 15; (obtain ⟨G14, h14⟩ := HS14.out.a); (have HQ := Lib.hid (framesR_s _ h14 HT.out HK.out (by rw [HN.out]; exact HL.out) HC.out)); (with_reducible refine HQ.out.mono ?_); clear HQ; rintro e w15 ⟨a2, c2, D2, E2, rfl, hs⟩; have hs2 := AtB.ofC hs; obtain ⟨g2, vd2, rfl, hv, hr⟩ := hs2.frame (i := 0) (f := resetF 0 k code) rfl (by show ((([] : List UInt8).length : Nat) : Int) ≤ 1000000; decide); have HS15 := Lib.hid hs2; have HV15 := Lib.hid hv; have c15 : w15.cell? ⟨g2, 0, none⟩ = some (.int .i64 4) := hr 0 _ rfl; have HL15 : Hid ((Instr.loadAt 52 (.pointer (some ⟨g2, 0, none⟩))).run Tryz.prog w15 = .ok (.agg (frC (resetF 0 k code) vd2 nilS)) w15) := Lib.hid (run_loadAt_mid w15 g2 0 52 (frL (resetF 0 k code) vd2 nilS) _ hr Tryz.underlying52 rfl (sizeFrR (resetF 0 k code) vd2 nilS rfl)); clear hs hs2 hv hr h14)
      | ((with_reducible refine wpList_load_g 52 (.tmp 96) ?_ ?_ (.pointer (some ⟨g2, 0, none⟩)) (.agg (frC (resetF 0 k code) vd2 nilS)) ?_ HL15.out ?_); (· exact rfl); (· exact rfl); (· exact rfl))
      | (go_at_call 17; (have HQ := Lib.hid (takeR_s HS15.out HK.out (by rw [HN.out]; exact HL.out) HC.out HV15.out)); (with_reducible refine HQ.out.mono ?_); clear HQ; rintro e w16 ⟨rfl, hs⟩; have HS16 := Lib.hid hs; clear hs)
      | (go_at_call 19; (have HQ := Lib.hid (by have h := codeP_s HS16.out HK.out (by rw [HN.out]; exact HL.out); rw [HZ.out] at h; exact h)); (with_reducible refine HQ.out.mono ?_); clear HQ; rintro e w17 ⟨rfl, rfl⟩; skip)
      | (go_at_call 20; (have HQ := Lib.hid (readP_s HS16.out HK.out (by rw [HN.out]; exact HL.out) (takenP HK.out (by rw [HN.out]; exact HL.out)).1 (takenP HK.out (by rw [HN.out]; exact HL.out)).2)); (with_reducible refine HQ.out.mono ?_); clear HQ; rintro e w18 ⟨a3, c3, rfl, hs⟩; have HS18 := Lib.hid hs; clear hs)
      | (go_at_call 14; (obtain ⟨G18, h18⟩ := HS18.out.a); (have HQ := Lib.hid (writeR_s _ h18 (by rw [HN.out]; exact HL.out) (HS18.out.byts HB.out))); (with_reducible refine HQ.out.mono ?_); clear HQ; rintro e w19 ⟨rfl, hs⟩; have HS19 := Lib.hid (AtB.ofC hs); clear hs h18)
      | (go_at_call 15; (obtain ⟨G19, h19⟩ := HS19.out.a); (have HQ := Lib.hid (framesN_s _ h19 HT.out HK.out (by rw [HN.out]; exact HL.out) HC.out)); (with_reducible refine HQ.out.mono ?_); clear HQ; rintro e w20 ⟨a4, c4, D4, E4, rfl, hs⟩; have HS20 := Lib.hid (AtB.ofC hs); clear hs h19)
      | (go_at_call 21; (have HQ := Lib.hid (heldP_s HS20.out HK.out (by rw [HN.out]; exact HL.out))); (with_reducible refine HQ.out.mono ?_); clear HQ; rintro e w21 ⟨rfl, hs⟩; have HS21 := Lib.hid hs; clear hs)
      | fail)
     go_ret
     exact ⟨rfl, Mod.none_belowS HS21.out.fin⟩
  ·have t2 : decide ((4611686018427387903 : Int) < (code : Int)) = true := decide_eq_true (by omega)
   clear hT hb hx hl hc e0
   generalize text.length = n at *
   generalize (code : Int) = z at *
   go_enter Tryz.func5, Tryz.ntmps5
   go_wp2_with (first
    | (go_at_call 7; (with_reducible refine HAL.out.mono ?_); rintro e w0 ⟨rfl, hm⟩; have HS0 := Lib.hid hm; clear hm)
    | fail)
   go_ret
   exact ⟨rfl, Mod.none_belowS HS0.out⟩
 ·have t1 : decide ((200 : Int) < (text.length : Int)) = true := decide_eq_true (by omega)
  have t1' : decide (200 < text.length) = true := decide_eq_true (by omega)
  clear hT hb hx hl e0
  generalize text.length = n at *
  generalize (code : Int) = z at *
  go_enter Tryz.func5, Tryz.ntmps5
  go_wp2_with (first
   | (go_at_call 7; (with_reducible refine HAL.out.mono ?_); rintro e w0 ⟨rfl, hm⟩; have HS0 := Lib.hid hm; clear hm)
   | fail)
  go_ret
  exact ⟨rfl, Mod.none_belowS HS0.out⟩
end Go.Proofs.YtolgeghdkoodnaaGreatDoor
