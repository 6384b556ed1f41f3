/- bytes.Join of this program: parts one behind the other, with nothing between. And rows of the call's own whose block is longer than their capacity. -/
import Derived.Test.YtolbeamphmoimaaDoorVarT
import Derived.Lib.SlBuf
import Derived.Lib.MakeNoZero
import Derived.Laws.Externs
namespace Go.Proofs.YtolbeamphmoimaaDoor
open Go.RowKit

/-- A row of the call's own, its block at least as long as the capacity. -/
def OwnW (w : World) (B : Nat) (v : Value) (l : List UInt8) : Prop :=
  (v = .slice none 0 0 ∧ l = []) ∨ ∃ g cap cur, v = .slice (some ⟨g, 0, none⟩) l.length cap ∧ B ≤ g ∧ Blk w g cur 5 ∧ l.length ≤ cap ∧ cap ≤ maxLen ∧ cap ≤ cur.size ∧ cur.toList.take l.length = l.map bv
theorem OwnB.wide {w : World} {B : Nat} {v : Value} {l : List UInt8} (h : OwnB w B v l) : OwnW w B v l := by
  obtain ⟨h1, h2⟩ := h
  rcases h2 with ⟨rfl, h0⟩ | ⟨g, cap, cur, rfl, hb, hg, h3, h4, h5, h6⟩
  · exact .inl ⟨rfl, List.eq_nil_of_length_eq_zero h0⟩
  · exact .inr ⟨g, cap, cur, rfl, hb, hg, h3, h4, by omega, by simpa using h6⟩
theorem OwnW.byts {w : World} {B : Nat} {v : Value} {l : List UInt8} (h : OwnW w B v l) : Byts w v l := by
  rcases h with ⟨rfl, rfl⟩ | ⟨g, cap, cur, rfl, _, hg, h3, h4, h5, h6⟩
  · exact Sl.nil _ _
  · refine ⟨by simp, _, cap, rfl, h3, h4, fun h => by simp at h, fun j u hu => ⟨g, 0, rfl, ?_⟩⟩
    rw [← h6, List.getElem?_take] at hu
    split at hu
    · rw [Nat.zero_add]; exact hg.cellAt j (by simpa using hu)
    · simp at hu
theorem OwnW.mono {w : World} {B B' : Nat} {v : Value} {l : List UInt8} (h : OwnW w B v l) (hB : B' ≤ B) : OwnW w B' v l := by
  rcases h with h | ⟨g, cap, cur, h1, h2, h3⟩
  · exact .inl h
  · exact .inr ⟨g, cap, cur, h1, by omega, h3⟩
theorem OwnW.lt {w : World} {B : Nat} {v : Value} {l : List UInt8} (h : OwnW w B v l) (g : Nat) (hg : v.ownBlock = some g) : B ≤ g ∧ g < w.heap.size := by
  rcases h with ⟨rfl, rfl⟩ | ⟨g', cap, cur, rfl, hb, hk, _⟩
  · simp [Value.ownBlock] at hg
  · simp [Value.ownBlock] at hg; subst hg; exact ⟨hb, hk.lt⟩
theorem Mod.ownW {S : Nat → Prop} {w w' : World} {B : Nat} {v : Value} {l : List UInt8} (h : Mod S w w') (ho : OwnW w B v l) (hS : ∀ g, v.ownBlock = some g → ¬ S g) : OwnW w' B v l := by
  rcases ho with h1 | ⟨g', cap, cur, rfl, hb, hk, h2⟩
  · exact .inl h1
  · exact .inr ⟨g', cap, cur, rfl, hb, h.blk hk (hS _ rfl), h2⟩

/-- 'append' onto such a row. -/
theorem run_append_w {P : Program} {w : World} (t ty : TypeId) (i : TypeInfo) (z : Value) (ht : P.underlying t = some (.slice 5)) (hi : P.info? 5 = some i) (hz : i.zero = some z) (hsize : i.size = 1) (hby : i.bytes = 1) (hzs : z.cells.size = 1)
    (B : Nat) (v : Value) (l : List UInt8) (hown : OwnW w B v l) (sv : Value) (news : List UInt8) (hsl : Byts w sv news) (hb : l.length + news.length ≤ 140737488355328) (hB : B ≤ w.heap.size) :
    ∃ v' w', (Builtin.append_ #[t, t] ty #[v, sv]).run P w = .ok v' w' ∧ OwnW w' B v' (l ++ news) ∧ w.grownBy w' v.ownBlock := by
  have h63 : l.length + news.length ≤ maxLen := by unfold maxLen; omega
  by_cases hn0 : news = []
  · subst hn0
    obtain ⟨sa, sc, rfl, _, _, hs0⟩ := byts_val hsl
    have hrun : (Builtin.append_ #[t, t] ty #[v, .slice sa 0 sc]).run P w = .ok v w := by
      rcases hown with ⟨rfl, rfl⟩ | ⟨g, cap, cur, rfl, hbg, hg, hnc, hcm, hcs, htake⟩
      · cases sa <;> simp [Builtin.append_, run_underlying ht, sizeOf, typeInfo, hi, Builtin.lenOf, Builtin.firstCells, loadCells, loadCellsFrom]
      · cases sa <;> simp [Builtin.append_, run_underlying ht, sizeOf, typeInfo, hi, Builtin.lenOf, Builtin.firstCells, loadCells, loadCellsFrom, hnc, storeCells]
    exact ⟨v, w, hrun, by simpa using hown, World.grownBy.refl _ _⟩
  · obtain ⟨b, off, c, rfl, h1, h2, h3⟩ := byts_addr hsl hn0
    have hpos := List.length_pos_iff.2 hn0
    have hnews : ∀ j u, (news.map bv)[j]? = some u → w.cell? ((⟨b, off, none⟩ : Addr).add j) = some u := by
      intro j u hu
      rw [List.getElem?_map] at hu
      obtain ⟨x, hx, rfl⟩ := Option.map_eq_some_iff.1 hu
      rw [Addr.add_lit]; exact h3 j x hx
    rcases hown with ⟨rfl, rfl⟩ | ⟨g, cap, cur, rfl, hbg, hg, hnc, hcm, hcs, htake⟩
    · obtain ⟨v', w', hr, ho, hgr, _⟩ := run_append_own (P := P) w B t ty 5 i z 1 1 ht hi hz hsize hby hzs (by decide) (.slice none 0 0) 0 [] (World.ownsRow_nil _ _ _ _) ⟨b, off, none⟩ news.length c (news.map bv) (by simp) hnews (bv_one _) (by simpa using h63) (by simpa using hb) hB
      refine ⟨v', w', hr, OwnB.wide ?_, hgr⟩
      unfold OwnB
      simpa using ho
    · by_cases hroom : l.length + news.length ≤ cap
      · have hr := run_append_room (P := P) w t ty 5 i ht hi g l.length cap cur hg ⟨b, off, none⟩ news.length c (news.map bv) (by simp [hsize]) hnews (bv_one _) hroom (by simp [hsize]; omega)
        refine ⟨_, _, hr, .inr ⟨g, cap, _, by simp, hbg, setRow_heap w g cur _ _ _ hg, by simpa using hroom, hcm, ?_, ?_⟩, ⟨rfl, rfl, rfl, by simp, fun k _ hk => setRow_other w g k _ (fun e => hk (by simp [Value.ownBlock, e]))⟩⟩
        · simp only [List.size_toArray, List.length_append, List.length_take, List.length_drop, Array.length_toList, List.length_map, hsize]
          omega
        · rw [hsize, Nat.mul_one, htake, ← List.map_append]
          exact List.take_left' (by simp)
      · have holds : ∀ j u, (l.map bv)[j]? = some u → w.cell? ((⟨g, 0, none⟩ : Addr).add j) = some u := by
          intro j u hu
          rw [Addr.add_lit, Nat.zero_add]
          rw [← htake, List.getElem?_take] at hu
          split at hu
          · exact hg.cellAt j (by simpa using hu)
          · simp at hu
        have hr := run_append_grow (P := P) w t ty 5 i z ht hi hz ⟨g, 0, none⟩ l.length cap (l.map bv) (by simp [hsize]) holds ⟨b, off, none⟩ news.length c (news.map bv) (by simp [hsize]) hnews (by omega) (by omega) (by rw [hby]; exact growslice_fits (by omega) (by omega))
        refine ⟨_, _, hr, .inr ⟨w.heap.size, grownCap w (l.length + news.length) cap 5, _, by simp, hB, heap_alloc_new w.drew _, ?_, grownCap_le_maxLen w _ _ _ h63, ?_, ?_⟩, ⟨rfl, rfl, rfl, by simp, fun k hk _ => (Go.RowKit.Below.heap_alloc w.drew _ k hk)⟩⟩
        · simpa using grownCap_ge w (l.length + news.length) cap 5
        · have := grownCap_ge w (l.length + news.length) cap 5
          simp only [Array.size_append, List.size_toArray, size_zeroCells, hzs, List.length_map]
          omega
        · simp only [Array.toList_append, List.append_assoc]
          rw [← List.append_assoc, ← List.map_append]
          exact List.take_left' (by simp)
end Go.Proofs.YtolbeamphmoimaaDoor
