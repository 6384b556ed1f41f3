/- The map of the numbers that were had, and the state of the program's Read. -/
import Derived.Test.YtacgcpofpmkgnaaDoorPaJ
import Derived.Maps.OwnOps
import Derived.Maps.Views
namespace Go.Proofs.YtacgcpofpmkgnaaDoor
open Go.RowKit Go.Maps

theorem law64 : Keyed Tryd.prog 22 := int_keyed Tryd.underlying22
theorem zeroB (w : World) : (zeroValue 4).run Tryd.prog w = .ok (.bool false) w := by kernel_rfl
theorem bool_inv {v : Value} {z : DataW Unit × List MemPlace} {d : DataW Unit} (h : plainElem (H := Unit) Tryd.prog 4 v = some z) (b : Bool) (hd : d = .lit (.bool b)) (hz : z.1 = d) : v = .bool b := by
  unfold plainElem at h
  rw [Tryd.underlying4] at h
  cases v <;> simp at h
  subst h
  subst hd
  simp at hz
  rw [hz]
/-- A number that can be a key. -/
def okId (id : Nat) : Prop := (Lit.int .u64 (id : Int)).wf = true
theorem okId_key {id : Nat} (h : okId id) : keyOf Tryd.prog 22 (.int .u64 (id : Int)) = some (.int .u64 (id : Int)) := keyOf_int_mk Tryd.underlying22 h
/-- A map of numbers that were had. -/
def HadM (w : World) (mb n : Nat) (had : List Nat) : Prop :=
  ∃ D : DataW Unit, w.ownsMap Tryd.prog 22 (plainElem Tryd.prog 4) mb n D ∧ IsMap D ∧ ∀ id, okId id → D.atKey (.int .u64 (id : Int)) (.lit (.bool false)) = .lit (.bool (had.contains id))
theorem HadM.made (w : World) : HadM (w.alloc (.map #[] 0)) w.heap.size 0 [] := ⟨.map [], World.ownsMap_made w _ _ _, ⟨[], rfl⟩, fun id _ => by rfl⟩
theorem HadM.kept {S : Nat → Prop} {w w' : World} {mb n : Nat} {had : List Nat} (h : HadM w mb n had) (hM : Mod S w w') (hS : ¬ S mb) : HadM w' mb n had := by
  obtain ⟨D, ⟨es, clock, hb, F, hn, hD⟩, h2, h3⟩ := h
  exact ⟨D, ⟨es, clock, (hM.block mb (Array.getElem?_eq_some_iff.1 hb).1 hS).trans hb, F, hn, hD⟩, h2, h3⟩
theorem HadM.lt {w : World} {mb n : Nat} {had : List Nat} (h : HadM w mb n had) : mb < w.heap.size := by
  obtain ⟨D, h1, _⟩ := h; exact h1.lt
theorem HadM.ne {w : World} {mb n b : Nat} {had : List Nat} {C : Array Value} {T : TypeId} (h : HadM w mb n had) (hb : Blk w b C T) : mb ≠ b := by
  obtain ⟨D, ⟨es, clock, h1, _⟩, _⟩ := h
  rintro rfl
  unfold Blk at hb
  rw [h1] at hb
  simp at hb
theorem HadM.look {w : World} {mb n id : Nat} {had : List Nat} (h : HadM w mb n had) (hi : okId id) : (Instr.lookup 53 (.map (some mb)) (.int .u64 (id : Int)) false).run Tryd.prog w = .ok (.bool (had.contains id)) w := by
  obtain ⟨D, h1, h2, h3⟩ := h
  obtain ⟨v, ps, hr, hv⟩ := h1.lookup law64 Tryd.underlying53 (zeroB w) (plainElem_bool Tryd.underlying4 false) (okId_key hi)
  rw [hr, bool_inv hv (had.contains id) (h3 id hi) rfl]
theorem HadM.put {w : World} {mb n id : Nat} {had : List Nat} (h : HadM w mb n had) (hi : okId id) (hn : n < maxLen) : ∃ w', (Instr.mapUpdate 53 (.map (some mb)) (.int .u64 (id : Int)) (.bool true)).run Tryd.prog w = .ok () w' ∧ HadM w' mb (n + 1) (id :: had) ∧ Mod (fun k => k = mb) w w' := by
  obtain ⟨D, h1, h2, h3⟩ := h
  obtain ⟨w', hr, ho, hg⟩ := h1.update law64 Tryd.underlying53 hn (okId_key hi) (plainElem_bool Tryd.underlying4 true)
  refine ⟨w', hr, ⟨_, ho, ?_, ?_⟩, (Mod.refl (fun k => k = mb) w).grown hg (fun k hk _ => (Option.some.inj hk).symm)⟩
  · obtain ⟨es, rfl⟩ := h2
    exact ⟨_, rfl⟩
  · intro id' hi'
    by_cases he : id' = id
    · subst he
      rw [atKey_put_same h2 (law64.key (okId_key hi))]
      simp
    · rw [atKey_put_other (by simp; omega), h3 id' hi']
      simp [he]
theorem okId_lt {id : Nat} (h : (id : Int) < 4611686018427387904) : okId id := by
  have h0 : IntKind.u64.min = 0 := by decide
  have h1 : (4611686018427387904 : Int) ≤ IntKind.u64.max := by decide
  unfold okId Lit.wf
  simp only [Bool.and_eq_true, decide_eq_true_eq]
  omega
theorem int_lt (s : RS) : (s.int.1 : Int) < 4611686018427387904 := by
  unfold RS.int
  split
  · show ((0 : Nat) : Int) < _; decide
  · rename_i c r hs
    split
    · show ((0 : Nat) : Int) < _; decide
    · simp only
      unfold RS.bytes
      split
      · show ((0 : Nat) : Int) < _; decide
      · rename_i h1 h2
        have h8 := lenOf_le c
        have hne : s.l.take (lenOf c) ≠ [] := by
          intro e
          have := congrArg List.length e
          rw [List.length_take, List.length_nil] at this
          omega
        have hv := valOf_lt _ hne
        have hl : (s.l.take (lenOf c)).length - 1 ≤ 7 := by rw [List.length_take]; omega
        have : 256 ^ ((s.l.take (lenOf c)).length - 1) ≤ 256 ^ 7 := Nat.pow_le_pow_right (by omega) hl
        have h7 : 64 * 256 ^ 7 = 4611686018427387904 := by decide
        simp only
        omega
/-- The state of the program's Read. -/
structure RdS (w0 w : World) (rb n : Nat) (p : Pm) (had : List Nat) (s : RS) : Prop where
  res : PmB w w0.heap.size Pm.zero
  pm : PmB w (w0.heap.size + 1) p
  map : HadM w (w0.heap.size + 2) n had
  rd : Rdr w rb s
  lo : w0.heap.size + 3 ≤ rb
  mod : Mod (fun _ => False) w0 w
theorem PmB.keptS {S : Nat → Prop} {w w' : World} {b : Nat} {p : Pm} (h : PmB w b p) (hM : Mod S w w') (hS : ¬ S b) : PmB w' b p := ⟨hM.blk h.blk hS, h.len⟩
theorem RdS.toF {w0 w w' : World} {rb n : Nat} {p : Pm} {had : List Nat} {s : RS} (h : RdS w0 w rb n p had s) (hM : Mod (fun _ => False) w w') : RdS w0 w' rb n p had s :=
  ⟨h.res.kept hM, h.pm.kept hM, h.map.kept hM (fun h => h), h.rd.kept hM (fun _ _ h => h), h.lo, h.mod.trans hM⟩
theorem RdS.toR {w0 w w' : World} {rb n : Nat} {p : Pm} {had : List Nat} {s s' : RS} (h : RdS w0 w rb n p had s) (hM : Mod (fun k => k = rb) w w') (hr : Rdr w' rb s') : RdS w0 w' rb n p had s' :=
  have := h.lo
  ⟨h.res.keptS hM (by omega), h.pm.keptS hM (by omega), h.map.kept hM (by omega), hr, h.lo, h.mod.trans' hM (fun i hi e => by omega)⟩
theorem RdS.toP {w0 w w' : World} {rb n : Nat} {p p' : Pm} {had : List Nat} {s : RS} (h : RdS w0 w rb n p had s) (hM : Mod (fun k => k = w0.heap.size + 1) w w') (hp : PmB w' (w0.heap.size + 1) p') : RdS w0 w' rb n p' had s :=
  have := h.lo
  ⟨h.res.keptS hM (by omega), hp, h.map.kept hM (by omega), hM.rdr h.rd (by omega) (fun b cs hb e => Blk.ne h.pm.blk (e ▸ hb) (by decide) rfl), h.lo, h.mod.trans' hM (fun i hi e => by omega)⟩
theorem RdS.toM {w0 w w' : World} {rb n n' : Nat} {p : Pm} {had had' : List Nat} {s : RS} (h : RdS w0 w rb n p had s) (hM : Mod (fun k => k = w0.heap.size + 2) w w') (hm : HadM w' (w0.heap.size + 2) n' had') : RdS w0 w' rb n' p had' s :=
  have := h.lo
  ⟨h.res.keptS hM (by omega), h.pm.keptS hM (by omega), hm, hM.rdr h.rd (by omega) (fun b cs hb e => h.map.ne (e ▸ hb) rfl), h.lo, h.mod.trans' hM (fun i hi e => by omega)⟩
/-- How many bytes are left, out of the world alone. -/
def lenAt (w : World) (rb : Nat) : Nat := match w.cell? ⟨rb, 0, none⟩ with
  | some (.slice _ n _) => n
  | _ => 0
theorem Rdr.lenAt {w : World} {rb : Nat} {s : RS} (h : Rdr w rb s) : lenAt w rb = s.l.length := by
  obtain ⟨_, a, cap, hb, _⟩ := h
  have hc : w.cell? ⟨rb, 0, none⟩ = some (.slice a s.l.length cap) := hb.cellAt 0 rfl
  unfold Proofs.YtacgcpofpmkgnaaDoor.lenAt
  rw [hc]
/-- What Read gives. -/
def ReadR (w : World) (R : Pm × Int) : Ending → World → Prop := fun e w' => e = .returned (.tuple #[pmV R.1, .int .i64 R.2]) ∧ Mod (fun _ => False) w w'
theorem bytes_len (s : RS) (n : Nat) : (s.bytes n).2.l.length ≤ s.l.length ∧ (s.bytes n).1.length ≤ s.l.length := by
  unfold RS.bytes
  split
  · simp
  · split
    · simp
    · simp; omega
theorem int_len (s : RS) : s.int.2.l.length ≤ s.l.length := by
  unfold RS.int
  split
  · unfold RS.fail; split <;> simp
  · split
    · unfold RS.fail; split <;> simp
    · exact (bytes_len s _).1
/-- An integer that was read takes a byte at least. -/
theorem int_less (s : RS) (h0 : s.l ≠ []) (h : s.int.2.e = 0) : s.int.2.l.length < s.l.length := by
  unfold RS.int at h ⊢
  split
  · rename_i hs; exact absurd hs h0
  · rename_i c r hs
    rw [hs] at h
    simp only at h
    split
    · rename_i hlt
      rw [if_pos (by rw [← hs]; exact hlt)] at h
      unfold RS.fail at h ⊢
      split <;> simp_all
    · rename_i hlt
      have h8 := lenOf_le c
      have hl : 0 < s.l.length := by rw [hs]; simp
      simp only
      unfold RS.bytes
      split
      · rename_i he
        rw [if_neg (by rw [← hs]; exact hlt)] at h
        simp only [RS.bytes, if_pos he] at h
        exact absurd h he
      · simp; omega
/-- A reader that is bad stays so. -/
theorem bytes_bad (s : RS) (n : Nat) (h : s.e ≠ 0) : (s.bytes n).2.e ≠ 0 := by
  unfold RS.bytes; rw [if_pos h]; exact h
theorem int_bad (s : RS) (h : s.e ≠ 0) : s.int.2.e ≠ 0 := by
  unfold RS.int
  split
  · unfold RS.fail; rw [if_neg (by simp [h])]; exact h
  · split
    · unfold RS.fail; rw [if_neg (by simp [h])]; exact h
    · exact bytes_bad s _ h
end Go.Proofs.YtacgcpofpmkgnaaDoor
