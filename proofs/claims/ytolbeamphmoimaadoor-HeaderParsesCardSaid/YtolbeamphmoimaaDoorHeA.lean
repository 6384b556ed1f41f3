/- Plain facts for the laws of headers put and parsed again, and the calls that these laws make. -/
import Derived.Test.YtolbeamphmoimaaDoorHdY
import Derived.Test.YtolbeamphmoimaaDoorHdXb
import Derived.Test.YtolbeamphmoimaaDoorAppZ
namespace Go.Proofs.YtolbeamphmoimaaDoor
open Go.RowKit

theorem zeros_len (n : Nat) : (List.replicate n (0 : UInt8)).length = n := List.length_replicate
theorem parse_again_long {h : Hd} (hr : rightB h = true) (hl : h.long = true) (hv : h.ver < 4294967296) (lb : List UInt8) :
    parseL (hputL h ++ List.replicate h.rest.toNat 0) = (h, ((hputL h).length : Int), 0) ∧ parseL ((hputL h ++ List.replicate h.rest.toNat 0) ++ lb) = (h, ((hputL h).length : Int), 0) := by
  have hb := (right_len hr).2.2.2.2.1
  refine ⟨parse_put_long hr hl hv _ (by rw [zeros_len]; omega), ?_⟩
  rw [List.append_assoc]
  exact parse_put_long hr hl hv _ (by rw [List.length_append, zeros_len]; omega)
theorem parse_again_short {h : Hd} (hr : rightB h = true) (hl : h.long = false) :
    parseL (hputL h ++ List.replicate h.rest.toNat 0) = (h, ((hputL h).length : Int), 0) := by
  have hb := (right_len hr).2.2.2.2
  rw [parse_put_short hr hl _ (by rw [zeros_len]; omega), zeros_len]
  congr 1
  obtain ⟨lo, ph, ki, ve, D, S, T, C, rs⟩ := h
  simp only at hb ⊢
  rw [show ((rs.toNat : Int)) = rs by omega]
theorem cut_any {h : Hd} (hr : rightB h = true) (k : Nat) (hk : k < (if h.long then hputL h ++ List.replicate h.rest.toNat 0 else hputL h).length) :
    parseL ((if h.long then hputL h ++ List.replicate h.rest.toNat 0 else hputL h).take k) = (Hd.zero, 0, 2) := by
  have hb := (right_len hr).2.2.2.2.1
  cases hl : h.long with
  | true =>
    simp only [hl, if_true] at hk ⊢
    exact cut_long hr hl (List.replicate h.rest.toNat 0) _ ((hputL h ++ List.replicate h.rest.toNat 0).drop k) (by rw [zeros_len]; omega) (fun e => by have := List.drop_eq_nil_iff.1 e; omega) (List.take_append_drop k _).symm
  | false =>
    simp only [hl] at hk ⊢
    exact cut_short hr hl _ ((hputL h).drop k) (fun e => by have := List.drop_eq_nil_iff.1 e; simp at hk; omega) (List.take_append_drop k _).symm
theorem same_self (h : Hd) : sameB h h = true := by simp [sameB]
theorem call_put {w : World} {h : Hd} {d s t c : Value} (hT : Tabs w) (hv : HdV w h d s t c) (X : World) (hM : Mod (fun _ => False) w X) :
    Calls Tryd.prog 15 #[hdV h d s t c] X fun e Y => ∃ a cp, e = .returned (.slice a (hputL h).length cp) ∧ OwnW Y X.heap.size (.slice a (hputL h).length cp) (hputL h) ∧ Mod (fun _ => False) X Y := by
  refine (hput_any (hM.tabs hT (fun h => h)) (hv.kept hM)).mono ?_
  rintro e Y ⟨v, rfl, ho, hY⟩
  obtain ⟨a, cp, rfl, _⟩ := byts_val ho.byts
  exact ⟨a, cp, rfl, ho, hY⟩
theorem call_same {X : World} {h : Hd} {d s t c d' s' t' c' : Value} (hv : HdV X h d s t c) (gv : HdV X h d' s' t' c') :
    Calls Tryd.prog 17 #[hdV h d s t c, hdV h d' s' t' c'] X fun e Y => e = .returned (.bool true) ∧ Mod (fun _ => False) X Y := by
  have := hsame_any hv gv
  rw [same_self] at this
  exact this
theorem OwnW.drew {w : World} {B : Nat} {v : Value} {l : List UInt8} (h : OwnW w B v l) : OwnW w.drew B v l := h.keptF (Mod.refl _ _).drew
def Cells9 (X : World) (g : Nat) (v0 v1 v2 v3 v4 v5 v6 v7 v8 : Value) : Prop :=
  X.cell? ⟨g, 0, none⟩ = some v0 ∧ X.cell? ⟨g, 1, none⟩ = some v1 ∧ X.cell? ⟨g, 2, none⟩ = some v2 ∧ X.cell? ⟨g, 3, none⟩ = some v3 ∧ X.cell? ⟨g, 4, none⟩ = some v4 ∧ X.cell? ⟨g, 5, none⟩ = some v5 ∧ X.cell? ⟨g, 6, none⟩ = some v6 ∧ X.cell? ⟨g, 7, none⟩ = some v7 ∧ X.cell? ⟨g, 8, none⟩ = some v8
theorem Cells9.on {S : Nat → Prop} {X Y : World} {g : Nat} {v0 v1 v2 v3 v4 v5 v6 v7 v8 : Value} (h : Cells9 X g v0 v1 v2 v3 v4 v5 v6 v7 v8) (hM : Mod S X Y) (hS : ¬ S g) : Cells9 Y g v0 v1 v2 v3 v4 v5 v6 v7 v8 :=
  ⟨hM.cellAt h.1 hS, hM.cellAt h.2.1 hS, hM.cellAt h.2.2.1 hS, hM.cellAt h.2.2.2.1 hS, hM.cellAt h.2.2.2.2.1 hS, hM.cellAt h.2.2.2.2.2.1 hS, hM.cellAt h.2.2.2.2.2.2.1 hS, hM.cellAt h.2.2.2.2.2.2.2.1 hS, hM.cellAt h.2.2.2.2.2.2.2.2 hS⟩
theorem Blk.cells9 {w : World} {g : Nat} {v0 v1 v2 v3 v4 v5 v6 v7 v8 : Value} {T : TypeId} (h : Blk w g #[v0, v1, v2, v3, v4, v5, v6, v7, v8] T) : Cells9 w g v0 v1 v2 v3 v4 v5 v6 v7 v8 :=
  ⟨h.cellAt 0 rfl, h.cellAt 1 rfl, h.cellAt 2 rfl, h.cellAt 3 rfl, h.cellAt 4 rfl, h.cellAt 5 rfl, h.cellAt 6 rfl, h.cellAt 7 rfl, h.cellAt 8 rfl⟩
theorem byts_take {w : World} {a : Option Addr} {n cap k : Nat} {l : List UInt8} (h : Byts w (.slice a n cap) l) (hk : k ≤ n) : Byts w (.slice a k cap) (l.take k) := by
  obtain ⟨h0, a', cap', e, h3, h4, h5, h6⟩ := h
  simp only [Value.slice.injEq] at e
  obtain ⟨rfl, e2, rfl⟩ := e
  have hk' : min k l.length = k := by omega
  refine ⟨by simp, a, cap, by rw [List.length_take, hk'], by rw [List.length_take, hk']; omega, h4, h5, fun j u hu => h6 j u ?_⟩
  rw [List.map_take, List.getElem?_take] at hu
  split at hu
  · exact hu
  · simp at hu
theorem OwnW.addr {w : World} {B n cap : Nat} {a : Option Addr} {l : List UInt8} (h : OwnW w B (.slice a n cap) l) (hl : l ≠ []) : ∃ g, a = some ⟨g, 0, none⟩ ∧ n = l.length ∧ n ≤ cap := by
  rcases h with ⟨_, e⟩ | ⟨g, cap', cur, e, _, _, h3, _⟩
  · exact absurd e hl
  · simp only [Value.slice.injEq] at e
    obtain ⟨rfl, rfl, rfl⟩ := e
    exact ⟨g, rfl, rfl, h3⟩
end Go.Proofs.YtolbeamphmoimaaDoor
