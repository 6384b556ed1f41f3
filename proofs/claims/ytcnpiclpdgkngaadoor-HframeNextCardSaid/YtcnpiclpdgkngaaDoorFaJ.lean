/- The program's Next: the state, what is read (plain). -/
import Derived.Test.YtcnpiclpdgkngaaDoorFaI
import Derived.Maps.OwnSet
namespace Go.Proofs.YtcnpiclpdgkngaaDoor
open Go.RowKit Go.Maps

theorem VMap.look2 {t e : TypeId} {w : World} {mb n : Nat} {z : Int} {f : Int → Option Value} {zv : Value} (h : VMap w mb n f) (hz : okKey z) (ht : Tryd.prog.underlying t = some (.map 3 e)) (h0 : (zeroValue e).run Tryd.prog w = .ok zv w) :
    (Instr.lookup t (.map (some mb)) (.int .i64 z) true).run Tryd.prog w = .ok (.tuple #[(f z).getD zv, .bool (f z).isSome]) w := by
  obtain ⟨D, h1, h2, h3⟩ := h
  obtain ⟨v, ps, hr, hv⟩ := h1.look_ok lawInt ht h0 (zd := .held zv) (zp := []) rfl (okKey_key hz)
  rw [(h3 z hz).1 zv] at hv
  simp only [anyElem, Option.some.injEq, Prod.mk.injEq, DataW.held.injEq] at hv
  rw [hr, hv.1, (h3 z hz).2]
theorem bytes_len (s : RS) (n : Nat) : (s.bytes n).2.l.length ≤ s.l.length ∧ (s.bytes n).1.length ≤ s.l.length := by
  unfold RS.bytes
  split
  · simp
  · split
    · simp
    · simp; omega
theorem int_len (s : RS) : s.int.2.l.length ≤ s.l.length := by
  unfold RS.int
  split
  · unfold RS.fail; split <;> simp
  · split
    · unfold RS.fail; split <;> simp
    · exact (bytes_len s _).1
theorem bytes_bad (s : RS) (n : Nat) (h : s.e ≠ 0) : (s.bytes n).2.e ≠ 0 := by
  unfold RS.bytes; rw [if_pos h]; exact h
theorem int_bad (s : RS) (h : s.e ≠ 0) : s.int.2.e ≠ 0 := by
  unfold RS.int
  split
  · unfold RS.fail; rw [if_neg (by simp [h])]; exact h
  · split
    · unfold RS.fail; rw [if_neg (by simp [h])]; exact h
    · exact bytes_bad s _ h
theorem results_cell3 {P : Program} {w : World} {fn : Func} {t u x : Tmp} {ty : TypeId} {b : Nat} {v : Value} (h : fn.results = #[.cell t ty, .tmp u, .tmp x]) (tmps : Array Value) (ha : tmps.getD t undef = .pointer (some ⟨b, 0, none⟩)) (hl : (loadVar ty ⟨b, 0, none⟩).run P w = .ok v w) :
    (results fn tmps).run P w = .ok (.tuple #[v, tmps.getD u undef, tmps.getD x undef]) w := by
  have ha' : (tmps[t]?).getD undef = .pointer (some ⟨b, 0, none⟩) := by simpa using ha
  simp only [results, h]
  simp [ha', asAddr, hl]
/-- What Next gives. -/
def NextR (w : World) (R : HF × Nat × Int) : Ending → World → Prop := fun e w' => ∃ vs vd, e = .returned (.tuple #[hfA R.1 vs vd, .int .i64 (R.2.1 : Int), .int .i64 R.2.2]) ∧ HFV w' R.1 vs vd ∧ Mod (fun _ => False) w w'
def zC : Array Value := #[.int .i64 0, .int .u64 0, .slice none 0 0, .slice none 0 0]
theorem zC_one : ∀ v ∈ zC.toList, v.oneCell' = true := by
  intro v hv
  simp [zC] at hv
  rcases hv with rfl | rfl | rfl | rfl <;> rfl
/-- The state of Next. -/
structure NxS (w0 w : World) (rb : Nat) (s : RS) : Prop where
  res : Blk w w0.heap.size zC 26
  f : Blk w (w0.heap.size + 1) zC 26
  rd : Rdr w rb s
  lo : w0.heap.size + 2 ≤ rb
  mod : Mod (fun _ => False) w0 w
theorem NxS.toR {w0 w w' : World} {rb : Nat} {s s' : RS} (h : NxS w0 w rb s) (hM : Mod (fun k => k = rb) w w') (hr : Rdr w' rb s') : NxS w0 w' rb s' :=
  have := h.lo
  ⟨hM.blk h.res (by omega), hM.blk h.f (by omega), hr, h.lo, h.mod.trans' hM (fun i hi e => by omega)⟩
theorem NxS.toF {w0 w w' : World} {rb : Nat} {s : RS} (h : NxS w0 w rb s) (hM : Mod (fun _ => False) w w') : NxS w0 w' rb s :=
  ⟨hM.blk h.res (fun h => h), hM.blk h.f (fun h => h), h.rd.kept hM (fun _ _ h => h), h.lo, h.mod.trans hM⟩
theorem size26z : (Tryd.prog.info? 26).map (·.size) = some zC.size := by show _ = some 4; kernel_rfl
theorem next_run {wz : World} {fn : Func} {tmps : Array Value} {n : Nat} {e : Int} {b : Nat} {C : Array Value} (hf : fn.results = #[.cell 2 26, .tmp 3, .tmp 4]) (ha : tmps.getD 2 undef = .pointer (some ⟨b, 0, none⟩)) (h3 : tmps.getD 3 undef = .int .i64 (n : Int)) (h4 : tmps.getD 4 undef = .int .i64 e)
    (hB : Blk wz b C 26) (hs : (Tryd.prog.info? 26).map (·.size) = some C.size) : (results fn tmps).run Tryd.prog wz = .ok (.tuple #[.agg C, .int .i64 (n : Int), .int .i64 e]) wz := by
  rw [results_cell3 hf tmps ha (blk_loadVar (P := Tryd.prog) hB Tryd.underlying26 rfl hs), h3, h4]
/-- The end of Next that gives no frame. -/
theorem next_zero {w wz : World} {n : Nat} {e : Int} (hM : Mod (fun _ => False) w wz) : NextR w (HF.zero, n, e) (.returned (.tuple #[.agg zC, .int .i64 (n : Int), .int .i64 e])) wz :=
  ⟨_, _, rfl, ⟨Sl.nil _ _, Sl.nil _ _, by simp [HF.zero], by simp [HF.zero]⟩, hM⟩
theorem nextL_bad {b : List UInt8} (h : (RS.int ⟨b, 0⟩).2.e ≠ 0) : nextL b = (HF.zero, 0, 2) := by
  unfold nextL
  rw [if_neg (fun h' => h h'.1), if_pos (bytes_bad _ _ (int_bad _ h))]
theorem nextL_old {b : List UInt8} (h : (RS.int ⟨b, 0⟩).2.e = 0) (ho : isOld (RS.int ⟨b, 0⟩).1 = true) : nextL b = (HF.zero, 0, 3) := by
  unfold nextL
  rw [if_pos ⟨h, ho⟩]
theorem nextL_short {b : List UInt8} (ho : isOld (RS.int ⟨b, 0⟩).1 = false) (h : ((RS.int ⟨b, 0⟩).2.int.2.bytes (RS.int ⟨b, 0⟩).2.int.1).2.e ≠ 0) : nextL b = (HF.zero, 0, 2) := by
  unfold nextL
  rw [if_neg (fun h' => by rw [ho] at h'; simp at h'), if_pos h]
theorem nextL_none {b : List UInt8} (ho : isOld (RS.int ⟨b, 0⟩).1 = false) (h : ((RS.int ⟨b, 0⟩).2.int.2.bytes (RS.int ⟨b, 0⟩).2.int.1).2.e = 0) (hk : isKind (RS.int ⟨b, 0⟩).1 = false) : nextL b = (HF.zero, b.length - ((RS.int ⟨b, 0⟩).2.int.2.bytes (RS.int ⟨b, 0⟩).2.int.1).2.l.length, 6) := by
  unfold nextL
  rw [if_neg (fun h' => by rw [ho] at h'; simp at h'), if_neg (by simp [h]), if_pos hk]
theorem nextL_kind {b : List UInt8} (ho : isOld (RS.int ⟨b, 0⟩).1 = false) (h : ((RS.int ⟨b, 0⟩).2.int.2.bytes (RS.int ⟨b, 0⟩).2.int.1).2.e = 0) (hk : isKind (RS.int ⟨b, 0⟩).1 = true) :
    nextL b = nextE (RS.int ⟨b, 0⟩).1 ((RS.int ⟨b, 0⟩).2.int.2.bytes (RS.int ⟨b, 0⟩).2.int.1).1 (b.length - ((RS.int ⟨b, 0⟩).2.int.2.bytes (RS.int ⟨b, 0⟩).2.int.1).2.l.length) := by
  unfold nextL
  rw [if_neg (fun h' => by rw [ho] at h'; simp at h'), if_neg (by simp [h]), if_neg (by simp [hk])]
end Go.Proofs.YtcnpiclpdgkngaaDoor
