/- All frames: frames in memory one behind the other. -/
import Derived.Test.YteegonadodmeeaaDoorGaY
namespace Go.Proofs.YteegonadodmeeaaDoor
open Go.RowKit

/-- A frame's cells, whose slices are the call's own. -/
def FrO (w : World) (B : Nat) (f : Fr) (cs : List Value) : Prop := ∃ vd vr, cs = frL f vd vr ∧ OwnB w B vd f.d ∧ OwnR w B vr f.rs ∧ f.t.length = 16
theorem FrO.kept {S : Nat → Prop} {w w' : World} {B : Nat} {f : Fr} {cs : List Value} (h : FrO w B f cs) (hM : Mod S w w') (hS : ∀ b cs T, Blk w b cs T → T = 5 ∨ T = 44 → ¬ S b) : FrO w' B f cs := by
  obtain ⟨vd, vr, h1, h2, h3, h4⟩ := h
  refine ⟨vd, vr, h1, hM.own h2 (fun g hg e => ?_), h3.kept hM (fun g hg e => ?_), h4⟩
  · rcases h2.2 with ⟨rfl, _⟩ | ⟨g', cap, cur, rfl, _, hgg, _⟩
    · simp [Value.ownBlock] at hg
    · simp [Value.ownBlock] at hg; subst hg
      exact hS _ _ _ (show Blk w g' cur 5 from hgg) (.inl rfl) e
  · rcases h3.2 with ⟨rfl, _⟩ | ⟨g', cap, cur, rfl, _, hgg, _⟩
    · simp [Value.ownBlock] at hg
    · simp [Value.ownBlock] at hg; subst hg
      exact hS _ _ _ (show Blk w g' cur 44 from hgg) (.inr rfl) e
theorem FrO.nil {w w' : World} {B : Nat} {f : Fr} {cs : List Value} (h : FrO w B f cs) (hM : Mod (fun _ => False) w w') : FrO w' B f cs := h.kept hM (fun _ _ _ _ _ h => h)
theorem FrO.len {w : World} {B : Nat} {f : Fr} {cs : List Value} (h : FrO w B f cs) : cs.length = 24 := by
  obtain ⟨vd, vr, rfl, _, _, h4⟩ := h
  simp [frL, h4]
/-- Frames' cells. -/
def FrsO (w : World) (B : Nat) : List Fr → List (List Value) → Prop
  | [], css => css = []
  | f :: l, css => ∃ c cs, css = c :: cs ∧ FrO w B f c ∧ FrsO w B l cs
theorem FrsO.kept {S : Nat → Prop} {w w' : World} {B : Nat} (hM : Mod S w w') (hS : ∀ b cs T, Blk w b cs T → T = 5 ∨ T = 44 → ¬ S b) : ∀ {l : List Fr} {css : List (List Value)}, FrsO w B l css → FrsO w' B l css
  | [], _, h => h
  | _ :: _, _, ⟨c, cs, h1, h2, h3⟩ => ⟨c, cs, h1, h2.kept hM hS, h3.kept hM hS⟩
theorem FrsO.snoc {w : World} {B : Nat} : ∀ {l : List Fr} {css : List (List Value)} {f : Fr} {c : List Value}, FrsO w B l css → FrO w B f c → FrsO w B (l ++ [f]) (css ++ [c])
  | [], _, f, c, h, hc => by
    have : _ = [] := h
    subst this
    exact ⟨c, [], rfl, hc, rfl⟩
  | g :: l, _, f, c, ⟨d, cs, h1, h2, h3⟩, hc => by
    subst h1
    exact ⟨d, cs ++ [c], rfl, h2, h3.snoc hc⟩
theorem FrsO.len {w : World} {B : Nat} : ∀ {l : List Fr} {css : List (List Value)}, FrsO w B l css → css.length = l.length ∧ css.flatten.length = l.length * 24
  | [], _, h => by
    have : _ = [] := h
    subst this
    simp
  | f :: l, _, ⟨c, cs, h1, h2, h3⟩ => by
    subst h1
    obtain ⟨e1, e2⟩ := h3.len
    have h24 := h2.len
    rw [List.flatten_cons, List.length_append, List.length_cons, List.length_cons]
    omega
/-- The call's own frames. -/
def OwnF (w : World) (B : Nat) (v : Value) (l : List Fr) : Prop := ∃ css, FrsO w B l css ∧ w.ownsRow B 27 24 v l.length css.flatten
theorem infoFr : (Tryd.prog.info? 27).map (fun i => (i.zero, i.size, i.bytes)) = some (some (.agg frZ), 24, 112) := by kernel_rfl
end Go.Proofs.YteegonadodmeeaaDoor
