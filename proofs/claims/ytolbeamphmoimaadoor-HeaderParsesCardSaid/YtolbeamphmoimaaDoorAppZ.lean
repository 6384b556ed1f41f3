/- 'append(x, make([]byte, n)...)': n zeros behind a row of bytes of the call's own. -/
import Derived.Test.YtolbeamphmoimaaDoorHdS
import Derived.Deep.AppendSrc
namespace Go.Proofs.YtolbeamphmoimaaDoor
open Go.RowKit

theorem zc (n : Nat) : (Builtin.zeroCells (Value.int .u8 0).cells n).toList = (List.replicate n (0 : UInt8)).map bv := by
  apply List.ext_getElem
  · simp [Builtin.zeroCells, Value.cells]
  · intro k h1 h2
    simp [Builtin.zeroCells, Value.cells, bv, Nat.mod_one]
/-- There is room. -/
theorem zeros_room (w : World) (n : Nat) (ty : TypeId) (hn : (n : Int) ≤ 100000) (sLen sCap : Nat) (hroom : sLen + n ≤ sCap) (b off : Nat)
    (hc : ∀ j, j < n → (w.cell? ⟨b, off + sLen + j, none⟩).isSome = true) (hf : ∀ j, j < n → w.frozen? ⟨b, off + sLen + j, none⟩ = false) :
    (Builtin.append_ #[23, 3] ty #[.slice (some ⟨b, off, none⟩) sLen sCap, .int .i64 (n : Int)]).run Tryd.prog w = .ok (.slice (some ⟨b, off, none⟩) (sLen + n) sCap) (w.setCells b (off + sLen) ((List.replicate n (0 : UInt8)).map bv)) := by
  obtain ⟨i0, hi, hz0, hz1, hz2⟩ := info_parts Tryd.info5
  have hw : IntKind.i64.wrap (n : Int) = n := IntWalk.i64_in _ (by omega)
  have h1 : ¬ ((n : Int) < 0) := by omega
  have h2 : ¬ (281474976710656 < (n : Int)) := by omega
  have hst := run_storeCells_cells (P := Tryd.prog) b (off + sLen) ((List.replicate n (0 : UInt8)).map bv) 0 w (by simpa using hc) (by simpa using hf) (bv_one _)
  simp only [Nat.add_zero] at hst
  by_cases h0 : n = 0
  · have h3 : (n : Int) ≤ 0 := by omega
    have hr : List.replicate n (0 : UInt8) = [] := by rw [h0]; rfl
    have HZ : Hid (n = 0) := h0
    rw [hr] at hst ⊢
    clear h0 hr
    simp only [List.map_nil] at hst ⊢
    simp [Builtin.append_, run_underlying Tryd.underlying23, run_underlying Tryd.underlying3, sizeOf, typeInfo, hi, hz1, hz2, zeroValue, hw, asInt, asIntOf, h1, h2, hroom, Addr.add_lit, hst]
    intro hne; exact absurd HZ.out hne
  · simp only [List.map_replicate] at hst ⊢
    simp [Builtin.append_, run_underlying Tryd.underlying23, run_underlying Tryd.underlying3, sizeOf, typeInfo, hi, hz1, hz2, zeroValue, hz0, hw, asInt, asIntOf, h1, h2, h0, hroom, Addr.add_lit, zc, hst]
/-- There is none: a new row. -/
theorem zeros_grow (w : World) (n : Nat) (ty : TypeId) (hn : (n : Int) ≤ 100000) (base : Option Addr) (sLen sCap : Nat) (olds : List Value) (hold : (Builtin.firstCells 1 sLen (.slice base sLen sCap)).run Tryd.prog w.drew = .ok olds.toArray w.drew)
    (hg : sCap < sLen + n) (hfit : Builtin.nextslicecap (sLen + n) sCap ≤ 281474976710656) (hs : (sLen : Int) ≤ 140737488355328) :
    (Builtin.append_ #[23, 3] ty #[.slice base sLen sCap, .int .i64 (n : Int)]).run Tryd.prog w =
      .ok (.slice (some ⟨w.heap.size, 0, none⟩) (sLen + n) (grownCap w (sLen + n) sCap 5))
        (w.drew.alloc (.cells ((olds ++ (List.replicate n (0 : UInt8)).map bv).toArray ++ Builtin.zeroCells (Value.int .u8 0).cells (grownCap w (sLen + n) sCap 5 - (sLen + n))) 5)) := by
  obtain ⟨i0, hi, hz0, hz1, hz2⟩ := info_parts Tryd.info5
  have hw : IntKind.i64.wrap (n : Int) = n := IntWalk.i64_in _ (by omega)
  have h1 : ¬ ((n : Int) < 0) := by omega
  have h2 : ¬ (281474976710656 < (n : Int)) := by omega
  have hn' : ¬ (sLen + n ≤ sCap) := by omega
  have h63' : ¬ (9223372036854775807 < ((sLen : Int) + (n : Int))) := by omega
  have h48' : ¬ (281474976710656 < Builtin.nextslicecap (sLen + n) sCap) := by omega
  by_cases h0 : n = 0
  · have hr : List.replicate n (0 : UInt8) = [] := by rw [h0]; rfl
    have HZ : Hid (n = 0) := h0
    rw [hr]
    clear h0 hr
    simp [Builtin.append_, run_underlying Tryd.underlying23, run_underlying Tryd.underlying3, sizeOf, typeInfo, hi, hz1, hz2, zeroValue, hz0, hw, asInt, asIntOf, h1, h2, hn', h63', h48', Question.forced, hold, newRow, grownCap]
    intro hne; exact absurd HZ.out hne
  · simp [Builtin.append_, run_underlying Tryd.underlying23, run_underlying Tryd.underlying3, sizeOf, typeInfo, hi, hz1, hz2, zeroValue, hz0, hw, asInt, asIntOf, h1, h2, h0, hn', h63', h48', Question.forced, hold, newRow, grownCap]
    congr 2
    apply Array.ext'
    simp [List.append_assoc, zc]
theorem blk_setCells {b : Nat} {T : TypeId} : ∀ (vs : List Value) (o : Nat) (w : World) (cs : Array Value), Blk w b cs T → o + vs.length ≤ cs.size → ∃ cs', Blk (w.setCells b o vs) b cs' T ∧ cs'.size = cs.size ∧ cs'.toList.take (o + vs.length) = cs.toList.take o ++ vs
  | [], o, w, cs, h, _ => ⟨cs, h, rfl, by simp⟩
  | v :: vs, o, w, cs, h, hl => by
    simp only [List.length_cons] at hl ⊢
    obtain ⟨cs', h1, h2, h3⟩ := blk_setCells vs (o + 1) (w.setCell ⟨b, o, none⟩ v) (cs.setIfInBounds o v) (h.set o v) (by rw [Array.size_setIfInBounds]; omega)
    refine ⟨cs', h1, by simpa using h2, ?_⟩
    rw [show o + (vs.length + 1) = o + 1 + vs.length by omega, h3, List.take_add_one]
    have : (cs.setIfInBounds o v).toList[o]? = some v := by have hlo : o < cs.size := by omega
                                                            simp [hlo]
    rw [this]
    simp [List.take_set_of_le]
theorem mod_setCells {a : World} {b : Nat} : ∀ (vs : List Value) (o : Nat) (w : World), Mod (fun k => k = b) a w → Mod (fun k => k = b) a (w.setCells b o vs)
  | [], _, _, h => h
  | v :: vs, o, _, h => mod_setCells vs (o + 1) _ (h.setCell (p := ⟨b, o, none⟩) (fun _ => rfl) v)
/-- Zeros behind a row of the call's own. -/
theorem run_append_z {w : World} (ty : TypeId) (n : Nat) (hn : (n : Int) ≤ 100000) (B : Nat) (v : Value) (l : List UInt8) (hown : OwnW w B v l) (hl : (l.length : Int) ≤ 1000000) (hB : B ≤ w.heap.size) :
    ∃ v' w', (Builtin.append_ #[23, 3] ty #[v, .int .i64 (n : Int)]).run Tryd.prog w = .ok v' w' ∧ OwnW w' B v' (l ++ List.replicate n 0) ∧ w.grownBy w' v.ownBlock := by
  have hbig : ∀ cap, cap < l.length + n → Builtin.nextslicecap (l.length + n) cap ≤ 281474976710656 := fun cap h => by
    have := growslice_fits (need := l.length + n) (old := cap) (bytes := 1) h (by omega)
    omega
  have h63 : l.length + n ≤ maxLen := by unfold maxLen; omega
  rcases hown with ⟨rfl, rfl⟩ | ⟨g, cap, cur, rfl, hbg, hg, hnc, hcm, hcs, htake⟩
  · by_cases h0 : n = 0
    · obtain ⟨i0, hi, hz0, hz1, hz2⟩ := info_parts Tryd.info5
      subst h0
      refine ⟨.slice none 0 0, w, ?_, .inl ⟨rfl, rfl⟩, World.grownBy.refl _ _⟩
      have hw0 : IntKind.i64.wrap ((0 : Nat) : Int) = 0 := rfl
      simp [Builtin.append_, run_underlying Tryd.underlying23, run_underlying Tryd.underlying3, sizeOf, typeInfo, hi, hz1, hz2, zeroValue, hz0, asInt, asIntOf]
      rfl
    · have hr := zeros_grow w n ty hn none 0 0 [] (by simp [Builtin.firstCells]) (by omega) (by simpa using hbig 0 (by simpa using Nat.pos_of_ne_zero h0)) (by omega)
      refine ⟨_, _, hr, .inr ⟨w.heap.size, grownCap w (0 + n) 0 5, _, by simp, hB, heap_alloc_new w.drew _, ?_, grownCap_le_maxLen w _ _ _ (by simpa using h63), ?_, ?_⟩, ⟨rfl, rfl, rfl, by simp, fun k hk _ => (Go.RowKit.Below.heap_alloc w.drew _ k hk)⟩⟩
      · simpa using grownCap_ge w (0 + n) 0 5
      · have := grownCap_ge w (0 + n) 0 5
        simp only [Array.size_append, List.size_toArray, size_zeroCells, List.length_append, List.length_map, List.length_replicate, List.length_nil, Value.cells]
        simp
        omega
      · simp only [Array.toList_append, List.nil_append]
        exact List.take_left' (by simp)
  · by_cases hroom : l.length + n ≤ cap
    · obtain ⟨cs', b1, b2, b3⟩ := blk_setCells ((List.replicate n (0 : UInt8)).map bv) l.length w cur hg (by simp; omega)
      have hr := zeros_room w n ty hn l.length cap hroom g 0 (fun j hj => by rw [hg.cell]; simp; omega) (fun j _ => hg.free _)
      rw [Nat.zero_add] at hr
      have hM := mod_setCells (a := w) ((List.replicate n (0 : UInt8)).map bv) l.length w (Mod.refl _ _) (b := g)
      refine ⟨_, _, hr, .inr ⟨g, cap, cs', by simp, hbg, b1, by simpa using hroom, hcm, by omega, ?_⟩, ⟨hM.os, hM.tape, hM.output, hM.size, fun k hk hne => hM.block k hk (fun e => hne (by simp [Value.ownBlock, e]))⟩⟩
      simpa [htake] using b3
    · have holds : (Builtin.firstCells 1 l.length (.slice (some ⟨g, 0, none⟩) l.length cap)).run Tryd.prog w.drew = .ok (l.map bv).toArray w.drew := by
        refine run_firstCells_some w.drew 1 l.length ⟨g, 0, none⟩ l.length cap (l.map bv) (by simp) ?_
        intro j u hu
        rw [Addr.add_lit, Nat.zero_add]
        rw [← htake, List.getElem?_take] at hu
        split at hu
        · exact hg.cellAt j (by simpa using hu)
        · simp at hu
      have hr := zeros_grow w n ty hn (some ⟨g, 0, none⟩) l.length cap (l.map bv) holds (by omega) (hbig cap (by omega)) (by omega)
      refine ⟨_, _, hr, .inr ⟨w.heap.size, grownCap w (l.length + n) cap 5, _, by simp, hB, heap_alloc_new w.drew _, ?_, grownCap_le_maxLen w _ _ _ h63, ?_, ?_⟩, ⟨rfl, rfl, rfl, by simp, fun k hk _ => (Go.RowKit.Below.heap_alloc w.drew _ k hk)⟩⟩
      · simpa using grownCap_ge w (l.length + n) cap 5
      · have := grownCap_ge w (l.length + n) cap 5
        simp only [Array.size_append, List.size_toArray, size_zeroCells, List.length_append, List.length_map, List.length_replicate, Value.cells]
        simp
        omega
      · simp only [Array.toList_append]
        rw [← List.map_append]
        exact List.take_left' (by simp)
theorem wpList_append_z {w : World} {ops : Array Oper} {rest : List Oper} {o : Oper} {a : Act} {Q : Exit → Act → World → Prop} (hgd : o.guard = none) (s x : Operand)
    (ho : o.op = .call { callee := .builtin .append, args := #[s, x], argTypes := #[23, 3] })
    (v : Value) (l : List UInt8) (B k n : Nat) (hs : a.eval s = v) (hown : OwnW w B v l) (hx : a.eval x = .int .i64 (k : Int)) (hk : (k : Int) ≤ 100000) (hl : (l.length : Int) ≤ 1000000)
    (L : List UInt8) (hL : L = l ++ List.replicate k 0) (hn : l.length + k = n) (hbase : B ≤ w.heap.size)
    (h : ∀ ap cp w', OwnW w' B (.slice ap n cp) L → (∀ {w0 : World}, Mod (fun _ => False) w0 w → w0.heap.size ≤ B → Mod (fun _ => False) w0 w') → wpList Tryd.prog ops Q rest (a.put o.dst (.slice ap n cp)) w') : wpList Tryd.prog ops Q (o :: rest) a w := by
  subst hL
  obtain ⟨v', w', hrun, ho', hg⟩ := run_append_z o.type k hk B v l hown hl hbase
  obtain ⟨ap, cp, rfl, _⟩ := byts_val ho'.byts
  have e : (l ++ List.replicate k (0 : UInt8)).length = n := by simpa using hn
  rw [e] at hrun ho'
  refine wpList_plain hgd fun K hK => ?_
  unfold Oper.wp
  simp [execOp, ho, resolve, invoke, builtin, hs, hx, hrun, Result.andThen]
  exact hK _ _ (h ap cp w' ho' (fun hM hB => hM.grown hg (fun k hk hlt => by have := (hown.lt k hk).1; omega)))
theorem step_append_z {w : World} {ops : Array Oper} {o : Oper} {a : Act} {K : Act → World → Prop} {Q : Exit → Act → World → Prop} {E : Prop} (hgd : o.guard = none) (s x : Operand)
    (ho : o.op = .call { callee := .builtin .append, args := #[s, x], argTypes := #[23, 3] })
    (v : Value) (l : List UInt8) (B k n : Nat) (hs : a.eval s = v) (hown : OwnW w B v l) (hx : a.eval x = .int .i64 (k : Int)) (hk : (k : Int) ≤ 100000) (hl : (l.length : Int) ≤ 1000000)
    (L : List UInt8) (hL : L = l ++ List.replicate k 0) (hn : l.length + k = n) (hbase : B ≤ w.heap.size)
    (h : ∀ ap cp w', OwnW w' B (.slice ap n cp) L → (∀ {w0 : World}, Mod (fun _ => False) w0 w → w0.heap.size ≤ B → Mod (fun _ => False) w0 w') → K (a.put o.dst (.slice ap n cp)) w') :
    if Region.wanted o (yielded ops a.tmps) = true then Oper.wp Tryd.prog o a w K Q else E := by
  have hw : Region.wanted o (yielded ops a.tmps) = true := by simp [Region.wanted, hgd]
  rw [if_pos hw]
  subst hL
  obtain ⟨v', w', hrun, ho', hg⟩ := run_append_z o.type k hk B v l hown hl hbase
  obtain ⟨ap, cp, rfl, _⟩ := byts_val ho'.byts
  have e : (l ++ List.replicate k (0 : UInt8)).length = n := by simpa using hn
  rw [e] at hrun ho'
  unfold Oper.wp
  simp [execOp, ho, resolve, invoke, builtin, hs, hx, hrun, Result.andThen]
  exact h ap cp w' ho' (fun hM hB => hM.grown hg (fun k hk hlt => by have := (hown.lt k hk).1; omega))
/-- As 'wpList_append_w', but what may be written is told from the present world on. -/
theorem wpList_append_o {w : World} {ops : Array Oper} {rest : List Oper} {o : Oper} {a : Act} {Q : Exit → Act → World → Prop} (hgd : o.guard = none) (s x : Operand)
    (ho : o.op = .call { callee := .builtin .append, args := #[s, x], argTypes := #[23, 23] })
    (v : Value) (l : List UInt8) (B n : Nat) (hs : a.eval s = v) (hown : OwnW w B v l)
    (sv : Value) (news : List UInt8) (hx : a.eval x = sv) (hsl : Byts w sv news) (L : List UInt8) (hL : L = l ++ news) (hn : l.length + news.length = n) (hbytes : (n : Int) ≤ 140737488355328) (hbase : B ≤ w.heap.size)
    (h : ∀ ap cp w', OwnW w' B (.slice ap n cp) L → Mod (fun k => v.ownBlock = some k) w w' → wpList Tryd.prog ops Q rest (a.put o.dst (.slice ap n cp)) w') : wpList Tryd.prog ops Q (o :: rest) a w := by
  subst hL
  obtain ⟨i0, hi, hz0, hz1, hz2⟩ := info_parts Tryd.info5
  obtain ⟨v', w', hrun, ho', hg⟩ := run_append_w (P := Tryd.prog) 23 o.type i0 (.int .u8 0) Tryd.underlying23 hi hz0 hz1 hz2 rfl B v l hown sv news hsl (by omega) hbase
  obtain ⟨ap, cp, rfl, _⟩ := byts_val ho'.byts
  have e : (l ++ news).length = n := by simpa using hn
  rw [e] at hrun ho'
  refine wpList_plain hgd fun K hK => ?_
  unfold Oper.wp
  simp [execOp, ho, resolve, invoke, builtin, hs, hx, hrun, Result.andThen]
  exact hK _ _ (h ap cp w' ho' ((Mod.refl _ w).grown hg (fun k hk _ => hk)))
/-- A parsed header stands where nothing of its blocks is written. -/
theorem hdv_past {S : Nat → Prop} {w w' : World} {B : Nat} {h : Hd} {d s t c : Value} (hv : HdV w h d s t c) (ho : HdO w B h d s t c) (hM : Mod S w w') (hS : ∀ k, S k → k < B) : HdV w' h d s t c := by
  have k : ∀ {v : Value} {l : List UInt8}, OwnB w B v l → Byts w' v l := fun h => (h.kept hM (fun g hg hs => by have := (World.ownsRow.lt h g hg).1; have := hS g hs; omega)).byts
  exact ⟨k ho.d, k ho.s, k ho.t, k ho.c, hv.ver, hv.dl, hv.sl, hv.tl, hv.cl, hv.kind, hv.rest⟩
end Go.Proofs.YtolbeamphmoimaaDoor
