/- Frames that came in, as a law's parameter. -/
import Derived.Test.YtcnpiclpdgkngaaDoorFbC
namespace Go.Proofs.YtcnpiclpdgkngaaDoor
open Go.Joins Go.ChangeShapes Go.WideShapes Go.RowKit Go.Deep

/-- Frames in memory, each with its slices. -/
def FrsV (w : World) (v : Value) (l : List (HF × Value × Value)) : Prop :=
  ∃ a cap, v = .slice a l.length cap ∧ l.length ≤ cap ∧ cap ≤ maxLen ∧ ∀ (i : Nat) (x : HF × Value × Value), l[i]? = some x → ∃ b off, a = some ⟨b, off, none⟩ ∧
    (w.cell? ⟨b, off + i * 4, none⟩ = some (.int .i64 x.1.k) ∧ w.cell? ⟨b, off + i * 4 + 1, none⟩ = some (.int .u64 (x.1.id : Int)) ∧ w.cell? ⟨b, off + i * 4 + 2, none⟩ = some x.2.1 ∧ w.cell? ⟨b, off + i * 4 + 3, none⟩ = some x.2.2) ∧ SetV w x.2.1 x.1.st ∧ Byts w x.2.2 x.1.d
theorem add_add' (a : Addr) (h : a.spot = none) (i j : Nat) : (a.add i).add j = ⟨a.block, a.off + i + j, none⟩ := by
  rw [add_plain h, add_plain rfl]
theorem open_hfs {H : Type} {enc : TypeId × Value → H} {W : World} {v : Value} {d : DataW H} {p : List MemPlace} {base : Nat} (hval : Value.okWide Tryd.prog W .any base 45 v)
    (h : DataW.Trod enc Tryd.prog W 0 (fun _ => true) true 45 v d p) : ∃ l : List (HF × Value × Value), FrsV W v l := by
  obtain ⟨a0, len, cap, rfl⟩ := okWide_slice Tryd.underlying45 hval
  obtain ⟨fuel, hf⟩ := h
  rcases open_slice Tryd.underlying45 hf with ⟨hcs, _⟩ | ⟨a, len', cap', m, n, D, Pl, hcs, _, hl, hm, hmm, _, hx⟩
  · simp [Value.cells] at hcs
    obtain ⟨rfl, rfl, rfl⟩ := hcs
    exact ⟨[], none, 0, rfl, Nat.le_refl _, by simp [maxLen], fun i x h => by simp at h⟩
  · simp [Value.cells] at hcs
    obtain ⟨rfl, rfl, rfl⟩ := hcs
    have hmm' : m = cap := by simpa using hmm
    have hce : Program.cellsOf Tryd.prog 26 = 4 := by kernel_rfl
    have each : ∀ i, i < len → ∃ x : HF × Value × Value, (W.cell? ((a.add (i * 4)).add 0) = some (.int .i64 x.1.k) ∧ W.cell? ((a.add (i * 4)).add 1) = some (.int .u64 (x.1.id : Int)) ∧ W.cell? ((a.add (i * 4)).add 2) = some x.2.1 ∧ W.cell? ((a.add (i * 4)).add 3) = some x.2.2) ∧ SetV W x.2.1 x.1.st ∧ Byts W x.2.2 x.1.d := by
      intro i hi
      obtain ⟨cs', h1, h2⟩ := hx i (by omega)
      rw [hce] at h1
      obtain ⟨_, hlen, hcell⟩ := World.cells?_some h1
      match cs', hlen with
      | [u0, u1, u2, u3], _ =>
        obtain ⟨y0, y1, y2, y3, k, _, _, t0, t1, t2, t3⟩ := trod_struct4 Tryd.underlying26 h2
        have z0 : Program.cellsOf Tryd.prog 3 = 1 := by kernel_rfl
        have z1 : Program.cellsOf Tryd.prog 22 = 1 := by kernel_rfl
        have z2 : Program.cellsOf Tryd.prog 23 = 1 := by kernel_rfl
        have z3 : Program.cellsOf Tryd.prog 24 = 1 := by kernel_rfl
        have t0 : DataW.trod enc Tryd.prog W 0 (fun _ => true) true k 3 [u0] = some y0 := by simpa [z0] using t0
        have t1 : DataW.trod enc Tryd.prog W 0 (fun _ => true) true k 22 [u1] = some y1 := by simpa [z1] using t1
        have t2 : DataW.trod enc Tryd.prog W 0 (fun _ => true) true k 23 [u2] = some y2 := by simpa [z2] using t2
        have t3 : DataW.trod enc Tryd.prog W 0 (fun _ => true) true k 24 [u3] = some y3 := by simpa [z3] using t3
        obtain ⟨n0, e0, _, w0⟩ := DataW.trod_int Tryd.underlying3 t0
        obtain ⟨n1, e1, _, w1⟩ := DataW.trod_int Tryd.underlying22 t1
        obtain ⟨m1, rfl⟩ := Int.eq_ofNat_of_zero_le (bounds_u64 w1).1
        obtain ⟨ls, hls⟩ := cells_sets t2
        obtain ⟨lb, hlb⟩ := cells_byts t3
        obtain rfl : u0 = .int .i64 n0 := by simpa using e0
        obtain rfl : u1 = .int .u64 (m1 : Int) := by simpa using e1
        exact ⟨(⟨n0, m1, ls, lb⟩, u2, u3), ⟨hcell 0 (by omega), hcell 1 (by omega), hcell 2 (by omega), hcell 3 (by omega)⟩, hls, hlb⟩
    obtain ⟨l, hll, hq⟩ := list_of len _ each
    refine ⟨l, some a, cap, by rw [hll], by omega, hm, fun i x hi => ?_⟩
    have h0 : 0 < l.length := by have := (List.getElem?_eq_some_iff.1 hi).1; omega
    have hsp : a.spot = none := by
      have := (hq 0 l[0] (List.getElem?_eq_getElem h0)).1.1
      rw [Nat.zero_mul] at this
      cases hs : a.spot with
      | none => rfl
      | some q =>
        exfalso
        have e : (a.add 0).add 0 = a := by simp [Addr.add]
        rw [e] at this
        unfold World.cell? at this
        rw [hs] at this
        split at this <;> simp at this
    obtain ⟨⟨q0, q1, q2, q3⟩, hs, hb⟩ := hq i x hi
    rw [add_add' a hsp] at q0 q1 q2 q3
    exact ⟨a.block, a.off, by obtain ⟨ab, ao, sp⟩ := a; simp only at hsp; subst hsp; rfl, ⟨q0, q1, q2, q3⟩, hs, hb⟩
/-- The bytes of frames, one behind the other. -/
def manyL (l : List (HF × Value × Value)) : List UInt8 := l.flatMap fun x => hfputL x.1
end Go.Proofs.YtcnpiclpdgkngaaDoor
