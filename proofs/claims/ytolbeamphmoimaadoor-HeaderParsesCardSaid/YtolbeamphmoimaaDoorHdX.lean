/- The plain laws of headers: what is put is parsed again, and peeked; bytes tell headers apart. No program in sight. -/
import Derived.Test.YtolbeamphmoimaaDoorHdK
import Derived.Test.YtolbeamphmoimaaDoorPlainB
namespace Go.Proofs.YtolbeamphmoimaaDoor
open Go.RowKit

theorem bytes_app (p t : List UInt8) (n : Nat) (h : p.length = n) : RS.bytes ⟨p ++ t, 0⟩ n = (p, ⟨t, 0⟩) := by
  subst h
  unfold RS.bytes
  rw [if_neg (by simp), if_neg (by simp)]
  simp
theorem byte_cons (x : UInt8) (t : List UInt8) : RS.byte ⟨x :: t, 0⟩ = (x, ⟨t, 0⟩) := by
  unfold RS.byte
  rw [show x :: t = [x] ++ t from rfl, bytes_app [x] t 1 rfl]
  rfl
theorem toNat_of (n : Nat) (h : n < 256) : (UInt8.ofNat n).toNat = n := UInt8.toNat_ofNat_of_lt' (by simpa using h)
theorem ver_put (v : Nat) (h : v < 4294967296) : verOf [UInt8.ofNat (v / 16777216), UInt8.ofNat (v / 65536), UInt8.ofNat (v / 256), UInt8.ofNat v] = v := by
  simp only [verOf, List.foldl, UInt8.toNat_ofNat']
  omega
theorem put_pos {h : Hd} (hr : rightB h = true) : 0 < (hputL h).length := by
  unfold hputL; rw [if_pos hr]; split <;> simp
/-- What a long header's bytes are, in the reader's order. -/
theorem put_long_eq {h : Hd} (hr : rightB h = true) (hl : h.long = true) (t : List UInt8) :
    hputL h ++ t = UInt8.ofNat (192 + 16 * h.kind.toNat + (h.cut.length - 1)) :: ([UInt8.ofNat (h.ver / 16777216), UInt8.ofNat (h.ver / 65536), UInt8.ofNat (h.ver / 256), UInt8.ofNat h.ver] ++ (UInt8.ofNat h.dst.length :: (h.dst ++ (UInt8.ofNat h.src.length :: (h.src ++ ((if h.kind = 0 then putL h.tok.length ++ h.tok else []) ++ (putL (h.cut.length + h.rest.toNat) ++ (h.cut ++ t)))))))) := by
  simp [hputL, hr, hl, cidL]
theorem put_short_eq {h : Hd} (hr : rightB h = true) (hl : h.long = false) (t : List UInt8) :
    hputL h ++ t = UInt8.ofNat (64 + (h.cut.length - 1) + if h.phase then 4 else 0) :: (h.dst ++ (h.cut ++ t)) := by
  simp [hputL, hr, hl]
theorem parse_put_long {h : Hd} (hr : rightB h = true) (hl : h.long = true) (hv : h.ver < 4294967296) (t : List UInt8) (ht : h.rest ≤ t.length) :
    parseL (hputL h ++ t) = (h, ((hputL h).length : Int), 0) := by
  obtain ⟨l1, l2, l3, l4, l5, l6⟩ := right_len hr
  obtain ⟨k1, k2, k3⟩ := right_long hr hl
  obtain ⟨k, hk, hk'⟩ : ∃ k : Nat, h.kind = k ∧ (k = 0 ∨ k = 2) := by
    rcases k3 with e | ⟨e, _⟩
    · exact ⟨0, e, .inl rfl⟩
    · exact ⟨2, e, .inr rfl⟩
  have hkn : h.kind.toNat = k := by omega
  obtain ⟨re, hre⟩ : ∃ re : Nat, h.rest = re := ⟨h.rest.toNat, by omega⟩
  have hren : h.rest.toNat = re := by omega
  have hlen : ((hputL h ++ t).length : Int) = (hputL h).length + t.length := by simp
  have hc : (UInt8.ofNat (192 + 16 * k + (h.cut.length - 1))).toNat = 192 + 16 * k + (h.cut.length - 1) := toNat_of _ (by omega)
  have e := put_long_eq hr hl t
  rw [hkn, hren] at e
  have b8 : (if h.kind = 0 then putL h.tok.length ++ h.tok else []) = (if k = 0 then putL h.tok.length ++ h.tok else []) := by
    by_cases hz : k = 0
    · rw [if_pos hz, if_pos (by omega)]
    · rw [if_neg hz, if_neg (by omega)]
  rw [b8] at e
  have i1 : (UInt8.ofNat h.dst.length).toNat = h.dst.length := toNat_of _ (by omega)
  have i2 : (UInt8.ofNat h.src.length).toNat = h.src.length := toNat_of _ (by omega)
  have hp := hlen
  unfold parseL
  rw [e] at hlen ⊢
  simp only [byte_cons, hc]
  have c1 : (192 + 16 * k + (h.cut.length - 1)) / 64 % 2 = 1 := by omega
  have c2 : ¬ (192 + 16 * k + (h.cut.length - 1)) < 128 := by omega
  have c3 : (192 + 16 * k + (h.cut.length - 1)) / 4 % 4 = 0 := by omega
  have c4 : (192 + 16 * k + (h.cut.length - 1)) / 16 % 4 = k := by omega
  have c5 : (192 + 16 * k + (h.cut.length - 1)) % 4 + 1 = h.cut.length := by omega
  rw [if_neg (by omega), if_neg c2, if_neg (by omega), c4, c5]
  rw [bytes_app [_, _, _, _] _ 4 rfl]
  simp only [byte_cons, i1]
  rw [bytes_app h.dst _ _ rfl]
  simp only [byte_cons, i2]
  rw [bytes_app h.src _ _ rfl]
  simp only
  have hfin : ∀ X : RS, X = ⟨putL (h.cut.length + re) ++ (h.cut ++ t), 0⟩ → (X.int = (h.cut.length + re, ⟨h.cut ++ t, 0⟩)) := fun X hX => by
    rw [hX]; exact int_putL _ _ (by omega)
  have hrr : rightB h = true := hr
  obtain ⟨lo, ph, ki, ve, D, S, T, C, rs⟩ := h
  simp only at hl k1 hk hre hv ht hp hlen l1 l2 l3 l4 l5 l6 k2 k3 ⊢ hfin
  subst hl k1 hk hre
  have fin2 : ∀ R : Nat, ((R : Int) - t.length) = ((hputL ⟨true, false, (k : Int), ve, D, S, T, C, (re : Int)⟩).length : Int) → finL ⟨true, false, (k : Int), verOf [UInt8.ofNat (ve / 16777216), UInt8.ofNat (ve / 65536), UInt8.ofNat (ve / 256), UInt8.ofNat ve], D, S, T, C, ((C.length + re - C.length : Nat) : Int)⟩ ((R : Int) - t.length) 0 = (⟨true, false, (k : Int), ve, D, S, T, C, (re : Int)⟩, ((hputL ⟨true, false, (k : Int), ve, D, S, T, C, (re : Int)⟩).length : Int), 0) := by
    intro R hR
    rw [hR, ver_put ve hv, show C.length + re - C.length = re by omega]
    unfold finL
    rw [if_neg (by simp), if_pos hrr]
  rcases hk' with rfl | rfl
  · simp only [if_true] at hlen ⊢
    rw [List.append_assoc] at hlen ⊢
    rw [int_putL _ _ (by omega)]
    simp only
    rw [bytes_app T _ _ rfl]
    simp only
    rw [int_putL _ _ (by omega)]
    simp only
    rw [if_neg (by omega), if_neg (by simp; omega), bytes_app C _ _ rfl]
    simp only
    exact fin2 _ (by rw [hlen]; omega)
  · have hT : T = [] := by
      rcases k3 with e | ⟨_, e⟩
      · simp at e
      · exact List.eq_nil_of_length_eq_zero e
    subst hT
    simp only [show ((2 : Nat) = 0) = False by decide, if_false, List.nil_append] at hlen ⊢
    rw [int_putL _ _ (by omega)]
    simp only
    rw [if_neg (by omega), if_neg (by simp; omega), bytes_app C _ _ rfl]
    simp only
    exact fin2 _ (by rw [hlen]; omega)
theorem parse_put_short {h : Hd} (hr : rightB h = true) (hl : h.long = false) (t : List UInt8) (ht : t.length ≤ 1200) :
    parseL (hputL h ++ t) = ({ h with rest := (t.length : Int) }, ((hputL h).length : Int), 0) := by
  obtain ⟨l1, l2, l3, l4, l5, l6⟩ := right_len hr
  obtain ⟨k1, k2, k3, k4, k5⟩ := right_short hr hl
  have hlen : ((hputL h ++ t).length : Int) = (hputL h).length + t.length := by simp
  obtain ⟨p, hp⟩ : ∃ p : Nat, p = (if h.phase then 4 else 0) ∧ (p = 4 ↔ h.phase = true) ∧ (p = 0 ∨ p = 4) := ⟨_, rfl, by cases h.phase <;> simp, by cases h.phase <;> simp⟩
  obtain ⟨hp1, hp2, hp3⟩ := hp
  have e := put_short_eq hr hl t
  rw [← hp1] at e
  have hc : (UInt8.ofNat (64 + (h.cut.length - 1) + p)).toNat = 64 + (h.cut.length - 1) + p := toNat_of _ (by omega)
  unfold parseL
  rw [e] at hlen ⊢
  simp only [byte_cons, hc]
  have c1 : (64 + (h.cut.length - 1) + p) / 64 % 2 = 1 := by omega
  have c3 : (64 + (h.cut.length - 1) + p) / 8 % 8 = 0 := by omega
  have c4 : decide ((64 + (h.cut.length - 1) + p) / 4 % 2 = 1) = h.phase := by
    rw [Bool.eq_iff_iff, ← hp2, decide_eq_true_eq]; omega
  have c5 : (64 + (h.cut.length - 1) + p) % 4 + 1 = h.cut.length := by omega
  rw [if_neg (by omega), if_pos (by omega), if_neg (by omega), c4, c5]
  rw [bytes_app h.dst _ 8 k5]
  simp only
  rw [bytes_app h.cut _ _ rfl]
  simp only
  have hS : h.src = [] := List.eq_nil_of_length_eq_zero k3
  have hT : h.tok = [] := List.eq_nil_of_length_eq_zero k4
  have eh : ({ h with rest := (t.length : Int) } : Hd) = ⟨false, h.phase, 0, 0, h.dst, [], [], h.cut, (t.length : Int)⟩ := by
    obtain ⟨lo, ph, ki, ve, D, S, T, C, rs⟩ := h
    simp only at hl k1 k2 hS hT ⊢
    subst hl k1 k2 hS hT
    rfl
  rw [eh, hlen]
  unfold finL
  rw [if_neg (by simp), if_pos]
  · rw [show ((hputL h).length : Int) + t.length - t.length = (hputL h).length by omega]
  · simp [rightB, l1, l2, k5]; omega
theorem peek_put {h : Hd} (hr : rightB h = true) (t : List UInt8) : peekL (hputL h ++ t) = (h.dst, h.long, true) := by
  obtain ⟨l1, l2, l3, l4, l5, l6⟩ := right_len hr
  cases hl : h.long with
  | true =>
    obtain ⟨k1, k2, k3⟩ := right_long hr hl
    have hk : h.kind.toNat = 0 ∨ h.kind.toNat = 2 := by rcases k3 with e | ⟨e, _⟩ <;> omega
    have hc : (UInt8.ofNat (192 + 16 * h.kind.toNat + (h.cut.length - 1))).toNat = 192 + 16 * h.kind.toNat + (h.cut.length - 1) := toNat_of _ (by omega)
    have i1 : (UInt8.ofNat h.dst.length).toNat = h.dst.length := toNat_of _ (by omega)
    unfold peekL
    rw [put_long_eq hr hl]
    simp only [byte_cons, hc]
    have g1 : 128 ≤ 192 + 16 * h.kind.toNat + (h.cut.length - 1) := by omega
    simp only [if_pos g1]
    rw [bytes_app [_, _, _, _] _ 4 rfl]
    simp only [byte_cons, i1]
    rw [bytes_app h.dst _ _ rfl]
    simp only
    rw [if_neg (by simp; omega), decide_eq_true g1]
  | false =>
    obtain ⟨k1, k2, k3, k4, k5⟩ := right_short hr hl
    have hp : (if h.phase then 4 else 0) ≤ 4 := by cases h.phase <;> simp
    have hc : (UInt8.ofNat (64 + (h.cut.length - 1) + if h.phase then 4 else 0)).toNat = 64 + (h.cut.length - 1) + if h.phase then 4 else 0 := toNat_of _ (by omega)
    unfold peekL
    rw [put_short_eq hr hl]
    simp only [byte_cons, hc]
    have g1 : ¬ 128 ≤ (64 + (h.cut.length - 1) + if h.phase then 4 else 0) := by omega
    simp only [if_neg g1]
    rw [bytes_app h.dst _ 8 k5]
    simp only
    rw [if_neg (by simp; omega), decide_eq_false g1]
theorem put_inj {h g : Hd} (hr : rightB h = true) (gr : rightB g = true) (hv : h.ver < 4294967296) (gv : g.ver < 4294967296) (hs : h.long = false → h.rest = 0) (gs : g.long = false → g.rest = 0) (e : hputL h = hputL g) : h = g := by
  have hz : (List.replicate 1200 (0 : UInt8)).length = 1200 := List.length_replicate
  have hb := (right_len hr).2.2.2.2.2
  have gb := (right_len gr).2.2.2.2.2
  cases hl : h.long with
  | true =>
    have p1 := parse_put_long hr hl hv (List.replicate 1200 0) (by rw [hz]; omega)
    cases gl : g.long with
    | true =>
      have p2 := parse_put_long gr gl gv (List.replicate 1200 0) (by rw [hz]; omega)
      rw [e, p2] at p1
      exact (Prod.mk.inj p1).1.symm
    | false =>
      have p2 := parse_put_short gr gl (List.replicate 1200 0) (by rw [hz]; omega)
      rw [e, p2] at p1
      have := congrArg Hd.long (Prod.mk.inj p1).1
      simp [hl, gl] at this
  | false =>
    cases gl : g.long with
    | true =>
      have p1 := parse_put_short hr hl (List.replicate 1200 0) (by rw [hz]; omega)
      have p2 := parse_put_long gr gl gv (List.replicate 1200 0) (by rw [hz]; omega)
      rw [e, p2] at p1
      have := congrArg Hd.long (Prod.mk.inj p1).1
      simp [hl, gl] at this
    | false =>
      have p1 := parse_put_short hr hl [] (by simp)
      have p2 := parse_put_short gr gl [] (by simp)
      rw [e, p2] at p1
      have h1 := (Prod.mk.inj p1).1
      have e1 := hs hl
      have e2 := gs gl
      obtain ⟨lo, ph, ki, ve, D, S, T, C, rs⟩ := h
      obtain ⟨lo', ph', ki', ve', D', S', T', C', rs'⟩ := g
      simp only at e1 e2 h1 ⊢
      subst e1 e2
      simp at h1 ⊢
      obtain ⟨a1, a2, a3, a4, a5, a6, a7, a8⟩ := h1
      exact ⟨a1.symm, a2.symm, a3.symm, a4.symm, a5.symm, a6.symm, a7.symm, a8.symm⟩
end Go.Proofs.YtolbeamphmoimaaDoor
