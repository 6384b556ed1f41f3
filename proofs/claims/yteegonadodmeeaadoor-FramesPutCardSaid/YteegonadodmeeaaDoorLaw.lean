/- How a law's statement comes of its walk: its arguments read as they did, since nothing that was there was written; a slice of bytes that came in reads as a list of bytes. -/
import Derived.Test.YteegonadodmeeaaDoorChecked
import Derived.Test.YteegonadodmeeaaDoorKit
import Derived.ProofKit
import Derived.OpenShut
import Derived.Deep.DeepHandedRow
import Derived.Carry
import Derived.SizedLaws
namespace Go.Proofs.YteegonadodmeeaaDoor
open Go.ChangeShapes Go.WideShapes Go.ChangeAt Go.RowKit

theorem Tryd.laidOut : laidOutB Tryd.prog = true := by kernel_rfl
theorem args_stay {H : Type} {enc : TypeId × Value → H} {W W' : World} (hb : Below W.heap.size W W') :
    ∀ (ts : List TypeId) (vs : List Value) (ds : List (DataW H)) (ps : List MemPlace), (ts.all fun t => Tryd.prog.readableRec t && decide (t < Tryd.prog.types.size)) = true →
      DataW.TrodAll enc Tryd.prog W 0 (fun _ => true) true ts vs ds ps → (∀ x ∈ ps, x.block < W.heap.size) → DataW.TrodAll enc Tryd.prog W' 0 (fun b => decide (b < W.heap.size)) true ts vs ds ps := by
  intro ts
  induction ts with
  | nil => intro vs ds ps _ h _; obtain ⟨rfl, rfl, rfl⟩ := trodAll_nil h; exact trodAll_mk0
  | cons t ts ih =>
    intro vs ds ps hr h hlt
    obtain ⟨v, vs', d, ds', p, q, rfl, rfl, rfl, h0, r0⟩ := trodAll_cons h
    simp only [List.all_cons, Bool.and_eq_true, decide_eq_true_eq] at hr
    refine trodAll_cons_mk (Below.trod Tryd.laidOut hr.1.1 hr.1.2 h0 hb (fun x hx => hlt x (List.mem_append.2 (.inl hx)))) (ih vs' ds' q ?_ r0 (fun x hx => hlt x (List.mem_append.2 (.inr hx))))
    simpa using hr.2
/-- What the statement of a law asks behind the call. -/
theorem law_post {H : Type} {enc : TypeId × Value → H} {W W' : World} {args : Array Value} {ds gs : List (DataW H)} {before : List MemPlace} {fn : Func} {s : ChangeSpec}
    (hW : DataW.Whole enc Tryd.prog fn.params.toList s.vars false W args.toList ds gs before) (hv : s.vars = []) (hres : fn.resultTypes = #[4])
    (hr : (fn.params.toList.all fun t => Tryd.prog.readableRec t && decide (t < Tryd.prog.types.size)) = true) (hb : Below W.heap.size W W')
    (h1 : (s.fn H (ds ++ gs)).results = [.lit (.bool true)]) (h2 : (s.fn H (ds ++ gs)).args = ds) (h3 : (s.fn H (ds ++ gs)).vars = []) :
    s.post enc Tryd.prog fn false true false false W args (.bool true) W' := by
  have hlt := hW.lt
  obtain ⟨p, q, hA, hV, rfl, hfz, hnd⟩ := hW
  have hV' := hV
  rw [hv] at hV'
  obtain ⟨rfl, rfl⟩ := trodVars_none hV'
  refine ⟨ds, [], p ++ [], [], p, [], ⟨p, [], hA, hV, rfl, hfz, hnd⟩, ?_, ?_, ?_, hb.frame _, fun h => by cases h⟩
  · rw [h1, hres]
    exact trodAll_cons_mk (shut_bool Tryd.underlying4 true) trodAll_mk0
  · rw [h2]
    exact args_stay hb _ _ _ _ hr hA (fun x hx => hlt x (by simpa using hx))
  · rw [h3, hv]
    rfl
theorem bv_of {z : Int} (h : 0 ≤ z ∧ z ≤ 255) : bv (UInt8.ofNat z.toNat) = .int .u8 z := by
  unfold bv
  congr 1
  rw [UInt8.toNat_ofNat_of_lt' (by show _ < 256; omega)]
  omega
/-- A slice of bytes that came in. -/
theorem open_byts {H : Type} {enc : TypeId × Value → H} {W : World} {v : Value} {d : DataW H} {p : List MemPlace} {base : Nat} (hval : Value.okWide Tryd.prog W .any base 23 v)
    (h : DataW.Trod enc Tryd.prog W 0 (fun _ => true) true 23 v d p) :
    ∃ l : List UInt8, Byts W v l ∧ (d = .nil ∧ l = [] ∨ ∃ es sp, d = .slice es sp ∧ l.length ≤ es.length + sp.length) := by
  obtain ⟨a0, len, cap, rfl⟩ := okWide_slice Tryd.underlying23 hval
  obtain ⟨fuel, hf⟩ := h
  rcases open_ints Tryd.underlying23 Tryd.underlying5 (by kernel_rfl) hf with ⟨hcs, hx⟩ | ⟨a, len', cap', zs, hcs, _, hl, hm, hz, hx, hcell, hwz⟩
  · simp [Value.cells] at hcs
    obtain ⟨rfl, rfl, rfl⟩ := hcs
    simp only [Prod.mk.injEq] at hx
    exact ⟨[], Sl.nil _ _, .inl ⟨hx.1, rfl⟩⟩
  · simp [Value.cells] at hcs
    obtain ⟨rfl, rfl, rfl⟩ := hcs
    simp only [Prod.mk.injEq] at hx
    simp at hz
    have hwf : ∀ z ∈ zs, 0 ≤ z ∧ z ≤ 255 := fun z hz => bounds_u8 (hwz z hz)
    have hlen : ((zs.take len).map (fun z => UInt8.ofNat z.toNat)).length = len := by simp; omega
    refine ⟨(zs.take len).map (fun z => UInt8.ofNat z.toNat), ?_, .inr ⟨_, _, hx.1, by simp [lits]⟩⟩
    refine ⟨by simp, some a, cap, by rw [hlen], by rw [hlen]; omega, hm, fun h => by simp at h, fun j u hu => ?_⟩
    have hj : j < len := by
      have := (List.getElem?_eq_some_iff.1 hu).1
      rw [List.length_map, hlen] at this
      exact this
    have ha : a.spot = none := by
      have := hcell 0 (by omega)
      unfold Addr.add at this
      simp only [if_true] at this
      cases hs : a.spot with
      | none => rfl
      | some x =>
        exfalso
        unfold World.cell? at this
        rw [hs] at this
        split at this <;> simp at this
    refine ⟨a.block, a.off, ?_, ?_⟩
    · cases a; simp_all
    · have hc := hcell j (by omega)
      have e : a.add j = ⟨a.block, a.off + j, none⟩ := by
        unfold Addr.add
        split
        · rename_i h0
          subst h0
          clear hc
          obtain ⟨ab, ao, sp⟩ := a
          simp only at ha
          subst ha
          rfl
        · rfl
      rw [e] at hc
      rw [hc]
      have hjz : j < zs.length := by omega
      have : ((zs.take len).map (fun z => UInt8.ofNat z.toNat)).map bv = (zs.take len).map (Value.int .u8) := by
        rw [List.map_map]
        apply List.map_congr_left
        intro z hz
        exact bv_of (hwf z (List.mem_of_mem_take hz))
      rw [this] at hu
      rw [List.getElem?_map, List.getElem?_take, if_pos hj] at hu
      rw [← hu]
      simp [List.getD, hjz]
end Go.Proofs.YteegonadodmeeaaDoor
