/- The state of the document's Read. -/
import Derived.Test.YtacgcpofpmkgnaaDoorPaL
import Derived.Test.YtacgcpofpmkgnaaDoorPaH
import Derived.Test.YtacgcpofpmkgnaaDoorVarT
namespace Go.Proofs.YtacgcpofpmkgnaaDoor
open Go.RowKit

theorem step_store_blk {P : Program} {ops : Array Oper} {op : Oper} {a : Act} {w : World} {K : Act → World → Prop} {Q : Exit → Act → World → Prop} {E : Prop} (hgd : op.guard = none) (ty : TypeId) (x y : Operand) (ho : op.op = .store ty x y)
    (b : Nat) (hx : a.eval x = .pointer (some ⟨b, 0, none⟩)) (C cells : Array Value) (hy : a.eval y = .agg cells) (T : TypeId) (h : Blk w b C T) (hi : (P.info? ty).map (·.size) = some cells.size) (hl : C.size = cells.size) (h1 : ∀ v ∈ cells.toList, v.oneCell' = true)
    (k : ∀ w', Blk w' b cells T → Mod (fun k => k = b) w w' → K (a.put op.dst undef) w') : if Region.wanted op (yielded ops a.tmps) = true then Oper.wp P op a w K Q else E := by
  obtain ⟨w', C', hr, hB, hs, he, hM⟩ := blk_store (P := P) 0 ty h hi (by omega) h1
  have e : C' = cells := by
    apply Array.toList_inj.1
    rw [he, List.drop_of_length_le (by simp; omega)]
    simp
  subst e
  have hw : Region.wanted op (yielded ops a.tmps) = true := by simp [Region.wanted, hgd]
  rw [if_pos hw]
  unfold Oper.wp execOp
  simp only [ho, hx, hy, Instr.storeAt, Instr.sureAddr, Sem.run_bind, Sem.run_pure, Result.andThen_ok, hr]
  exact k w' hB hM
def hadV (had : List Nat) (i : Nat) : Value := .bool (knownB i && had.contains i)
/-- The numbers that were had, as an array. -/
def hadC (had : List Nat) : Array Value := #[hadV had 0, hadV had 1, hadV had 2, hadV had 3, hadV had 4, hadV had 5, hadV had 6, hadV had 7, hadV had 8]
theorem hadV_other {had : List Nat} {id : Nat} (h : knownB id = false) (i : Nat) : hadV (id :: had) i = hadV had i := by
  unfold hadV
  congr 1
  by_cases e : i = id
  · subst e; rw [h]; rfl
  · simp [e]
theorem hadC_other {had : List Nat} {id : Nat} (h : knownB id = false) : hadC (id :: had) = hadC had := by
  unfold hadC
  simp only [hadV_other h]
theorem hadV_ne {had : List Nat} {id i : Nat} (h : i ≠ id) : hadV (id :: had) i = hadV had i := by
  unfold hadV
  simp [h]
theorem hadV_self {had : List Nat} {id : Nat} (h : knownB id = true) : hadV (id :: had) id = .bool true := by
  unfold hadV
  simp [h]
theorem hadC_set1 (had : List Nat) : (hadC had).setIfInBounds 1 (.bool true) = hadC (1 :: had) := by
  unfold hadC
  rw [hadV_ne (i := 0) (by decide), hadV_self (id := 1) (by decide), hadV_ne (i := 2) (by decide), hadV_ne (i := 3) (by decide), hadV_ne (i := 4) (by decide), hadV_ne (i := 5) (by decide), hadV_ne (i := 6) (by decide), hadV_ne (i := 7) (by decide), hadV_ne (i := 8) (by decide)]
  rfl
theorem hadC_set2 (had : List Nat) : (hadC had).setIfInBounds 2 (.bool true) = hadC (2 :: had) := by
  unfold hadC
  rw [hadV_ne (i := 0) (by decide), hadV_ne (i := 1) (by decide), hadV_self (id := 2) (by decide), hadV_ne (i := 3) (by decide), hadV_ne (i := 4) (by decide), hadV_ne (i := 5) (by decide), hadV_ne (i := 6) (by decide), hadV_ne (i := 7) (by decide), hadV_ne (i := 8) (by decide)]
  rfl
theorem hadC_set4 (had : List Nat) : (hadC had).setIfInBounds 4 (.bool true) = hadC (4 :: had) := by
  unfold hadC
  rw [hadV_ne (i := 0) (by decide), hadV_ne (i := 1) (by decide), hadV_ne (i := 2) (by decide), hadV_ne (i := 3) (by decide), hadV_self (id := 4) (by decide), hadV_ne (i := 5) (by decide), hadV_ne (i := 6) (by decide), hadV_ne (i := 7) (by decide), hadV_ne (i := 8) (by decide)]
  rfl
theorem hadC_set5 (had : List Nat) : (hadC had).setIfInBounds 5 (.bool true) = hadC (5 :: had) := by
  unfold hadC
  rw [hadV_ne (i := 0) (by decide), hadV_ne (i := 1) (by decide), hadV_ne (i := 2) (by decide), hadV_ne (i := 3) (by decide), hadV_ne (i := 4) (by decide), hadV_self (id := 5) (by decide), hadV_ne (i := 6) (by decide), hadV_ne (i := 7) (by decide), hadV_ne (i := 8) (by decide)]
  rfl
theorem hadC_set8 (had : List Nat) : (hadC had).setIfInBounds 8 (.bool true) = hadC (8 :: had) := by
  unfold hadC
  rw [hadV_ne (i := 0) (by decide), hadV_ne (i := 1) (by decide), hadV_ne (i := 2) (by decide), hadV_ne (i := 3) (by decide), hadV_ne (i := 4) (by decide), hadV_ne (i := 5) (by decide), hadV_ne (i := 6) (by decide), hadV_ne (i := 7) (by decide), hadV_self (id := 8) (by decide)]
  rfl
/-- The state of the document's Read. -/
structure RfS (w0 w : World) (a : Option Addr) (cap : Nat) (L : List UInt8) (p : Pm) (had : List Nat) (s : RS) : Prop where
  res : PmB w w0.heap.size Pm.zero
  pm : PmB w (w0.heap.size + 1) p
  had : Blk w (w0.heap.size + 2) (hadC had) 61
  rd : RefS w (w0.heap.size + 3) a cap L s
  aB : L ≠ [] → ∀ x, a = some x → x.block < w0.heap.size
  mod : Mod (fun _ => False) w0 w
theorem RfS.toF {w0 w w' : World} {a : Option Addr} {cap : Nat} {L : List UInt8} {p : Pm} {had : List Nat} {s : RS} (h : RfS w0 w a cap L p had s) (hM : Mod (fun _ => False) w w') : RfS w0 w' a cap L p had s :=
  ⟨h.res.kept hM, h.pm.kept hM, hM.blk h.had (fun h => h), hM.refs h.rd (fun h => h) (fun _ _ _ h => h), h.aB, h.mod.trans hM⟩
theorem RfS.toT {w0 w w' : World} {a : Option Addr} {cap : Nat} {L : List UInt8} {p : Pm} {had : List Nat} {s s' : RS} (h : RfS w0 w a cap L p had s) (hM : Mod (fun k => k = w0.heap.size + 3) w w') (hr : RefS w' (w0.heap.size + 3) a cap L s') : RfS w0 w' a cap L p had s' :=
  ⟨h.res.keptS hM (by omega), h.pm.keptS hM (by omega), hM.blk h.had (by omega), hr, h.aB, h.mod.trans' hM (fun i hi e => by omega)⟩
theorem RfS.toP {w0 w w' : World} {a : Option Addr} {cap : Nat} {L : List UInt8} {p p' : Pm} {had : List Nat} {s : RS} (h : RfS w0 w a cap L p had s) (hM : Mod (fun k => k = w0.heap.size + 1) w w') (hp : PmB w' (w0.heap.size + 1) p') : RfS w0 w' a cap L p' had s :=
  ⟨h.res.keptS hM (by omega), hp, hM.blk h.had (by omega), hM.refs h.rd (by omega) (fun hl x hx e => by have := h.aB hl x hx; omega), h.aB, h.mod.trans' hM (fun i hi e => by omega)⟩
theorem RfS.toH {w0 w w' : World} {a : Option Addr} {cap : Nat} {L : List UInt8} {p : Pm} {had had' : List Nat} {s : RS} (h : RfS w0 w a cap L p had s) (hM : Mod (fun k => k = w0.heap.size + 2) w w') (hp : Blk w' (w0.heap.size + 2) (hadC had') 61) : RfS w0 w' a cap L p had' s :=
  ⟨h.res.keptS hM (by omega), h.pm.keptS hM (by omega), hp, hM.refs h.rd (by omega) (fun hl x hx e => by have := h.aB hl x hx; omega), h.aB, h.mod.trans' hM (fun i hi e => by omega)⟩
theorem RfS.toN {w0 w w' : World} {a : Option Addr} {cap : Nat} {L : List UInt8} {p : Pm} {had : List Nat} {s : RS} {b : Nat} (h : RfS w0 w a cap L p had s) (hM : Mod (fun k => k = b) w w') (hb : w0.heap.size + 4 ≤ b) : RfS w0 w' a cap L p had s :=
  ⟨h.res.keptS hM (by omega), h.pm.keptS hM (by omega), hM.blk h.had (by omega), hM.refs h.rd (by omega) (fun hl x hx e => by have := h.aB hl x hx; omega), h.aB, h.mod.trans' hM (fun i hi e => by omega)⟩
theorem RfS.lt {w0 w : World} {a : Option Addr} {cap : Nat} {L : List UInt8} {p : Pm} {had : List Nat} {s : RS} (h : RfS w0 w a cap L p had s) : w0.heap.size + 4 ≤ w.heap.size := by
  obtain ⟨_, _, _, hb, _⟩ := h.rd
  have := hb.lt
  omega
/-- How many bytes are left of the document's reader, out of the world alone. -/
def leftAt (w : World) (tb n : Nat) : Nat := match w.cell? ⟨tb, 1, none⟩, w.cell? ⟨tb, 2, none⟩ with
  | some (.int _ k), some (.int _ e) => if e = 0 then n - k.toNat else 0
  | _, _ => 0
theorem RefS.leftAt {w : World} {tb cap : Nat} {a : Option Addr} {L : List UInt8} {s : RS} (h : RefS w tb a cap L s) : leftAt w tb L.length = s.l.length := by
  obtain ⟨k, e, rfl, hb, _, hk, _⟩ := h
  have h1 : w.cell? ⟨tb, 1, none⟩ = some (.int .i64 (k : Int)) := hb.cellAt 1 rfl
  have h2 : w.cell? ⟨tb, 2, none⟩ = some (.int .i64 e) := hb.cellAt 2 rfl
  unfold Proofs.YtacgcpofpmkgnaaDoor.leftAt
  rw [h1, h2]
  simp only [refS]
  split <;> simp
theorem RefS.bad {w : World} {tb cap : Nat} {a : Option Addr} {L : List UInt8} {s : RS} (h : RefS w tb a cap L s) : w.cell? ⟨tb, 2, none⟩ = some (.int .i64 s.e) := by
  obtain ⟨k, e, rfl, hb, _⟩ := h
  exact hb.cellAt 2 rfl
def RfL (w0 w : World) (a : Option Addr) (cap : Nat) (L : List UInt8) (R : Pm × Int) (p : Pm) (had : List Nat) (s : RS) : Prop := RfS w0 w a cap L p had s ∧ s.l.length ≤ L.length ∧ ∃ f, s.l.length < f ∧ preadL f p had s = R
theorem Blk.setSame {w : World} {b : Nat} {C : Array Value} {T : TypeId} (h : Blk w b C T) (i : Nat) (v : Value) (hv : C[i]? = some v) : Blk (w.setCell ⟨b, i, none⟩ v) b C T := by
  have h2 := h.set i v
  have e : C.setIfInBounds i v = C := by
    apply Array.ext_getElem?
    intro j
    rw [Array.getElem?_setIfInBounds]
    split
    · rename_i hij
      subst hij
      split
      · exact hv.symm
      · rename_i hlt
        rw [Array.getElem?_eq_none (by omega)] at hv
        cases hv
    · rfl
  rw [e] at h2
  exact h2
/-- Zero parameters, stored cell by cell. -/
def zero21 (w : World) (b : Nat) : World := (((((((((((((((((((((w.setCell ⟨b, 0, none⟩ (.int .u64 0)).setCell ⟨b, 1, none⟩ (.int .u64 0)).setCell ⟨b, 2, none⟩ (.int .u64 0)).setCell ⟨b, 3, none⟩ (.int .u64 0)).setCell ⟨b, 4, none⟩ (.bool false)).setCell ⟨b, 5, none⟩ (.int .u8 0)).setCell ⟨b, 6, none⟩ (.int .u8 0)).setCell ⟨b, 7, none⟩ (.int .u8 0)).setCell ⟨b, 8, none⟩ (.int .u8 0)).setCell ⟨b, 9, none⟩ (.int .u8 0)).setCell ⟨b, 10, none⟩ (.int .u8 0)).setCell ⟨b, 11, none⟩ (.int .u8 0)).setCell ⟨b, 12, none⟩ (.int .u8 0)).setCell ⟨b, 13, none⟩ (.int .u8 0)).setCell ⟨b, 14, none⟩ (.int .u8 0)).setCell ⟨b, 15, none⟩ (.int .u8 0)).setCell ⟨b, 16, none⟩ (.int .u8 0)).setCell ⟨b, 17, none⟩ (.int .u8 0)).setCell ⟨b, 18, none⟩ (.int .u8 0)).setCell ⟨b, 19, none⟩ (.int .u8 0)).setCell ⟨b, 20, none⟩ (.int .u8 0))
theorem zero21_eq (w : World) (b : Nat) : (((((((((((((((((((((w.setCell ⟨b, 0, none⟩ (.int .u64 0)).setCell ⟨b, 1, none⟩ (.int .u64 0)).setCell ⟨b, 2, none⟩ (.int .u64 0)).setCell ⟨b, 3, none⟩ (.int .u64 0)).setCell ⟨b, 4, none⟩ (.bool false)).setCell ⟨b, 5, none⟩ (.int .u8 0)).setCell ⟨b, 6, none⟩ (.int .u8 0)).setCell ⟨b, 7, none⟩ (.int .u8 0)).setCell ⟨b, 8, none⟩ (.int .u8 0)).setCell ⟨b, 9, none⟩ (.int .u8 0)).setCell ⟨b, 10, none⟩ (.int .u8 0)).setCell ⟨b, 11, none⟩ (.int .u8 0)).setCell ⟨b, 12, none⟩ (.int .u8 0)).setCell ⟨b, 13, none⟩ (.int .u8 0)).setCell ⟨b, 14, none⟩ (.int .u8 0)).setCell ⟨b, 15, none⟩ (.int .u8 0)).setCell ⟨b, 16, none⟩ (.int .u8 0)).setCell ⟨b, 17, none⟩ (.int .u8 0)).setCell ⟨b, 18, none⟩ (.int .u8 0)).setCell ⟨b, 19, none⟩ (.int .u8 0)).setCell ⟨b, 20, none⟩ (.int .u8 0)) = zero21 w b := rfl
theorem blk_zero21 {w : World} {b : Nat} {T : TypeId} (h : Blk w b (pmC Pm.zero) T) : Blk (zero21 w b) b (pmC Pm.zero) T := (((((((((((((((((((((h.setSame 0 (.int .u64 0) rfl).setSame 1 (.int .u64 0) rfl).setSame 2 (.int .u64 0) rfl).setSame 3 (.int .u64 0) rfl).setSame 4 (.bool false) rfl).setSame 5 (.int .u8 0) rfl).setSame 6 (.int .u8 0) rfl).setSame 7 (.int .u8 0) rfl).setSame 8 (.int .u8 0) rfl).setSame 9 (.int .u8 0) rfl).setSame 10 (.int .u8 0) rfl).setSame 11 (.int .u8 0) rfl).setSame 12 (.int .u8 0) rfl).setSame 13 (.int .u8 0) rfl).setSame 14 (.int .u8 0) rfl).setSame 15 (.int .u8 0) rfl).setSame 16 (.int .u8 0) rfl).setSame 17 (.int .u8 0) rfl).setSame 18 (.int .u8 0) rfl).setSame 19 (.int .u8 0) rfl).setSame 20 (.int .u8 0) rfl)
theorem mod_zero21 {S : Nat → Prop} {a w : World} {b : Nat} (h : Mod S a w) (hb : b < a.heap.size → S b) : Mod S a (zero21 w b) := (((((((((((((((((((((h.setCell (p := ⟨b, 0, none⟩) hb (.int .u64 0)).setCell (p := ⟨b, 1, none⟩) hb (.int .u64 0)).setCell (p := ⟨b, 2, none⟩) hb (.int .u64 0)).setCell (p := ⟨b, 3, none⟩) hb (.int .u64 0)).setCell (p := ⟨b, 4, none⟩) hb (.bool false)).setCell (p := ⟨b, 5, none⟩) hb (.int .u8 0)).setCell (p := ⟨b, 6, none⟩) hb (.int .u8 0)).setCell (p := ⟨b, 7, none⟩) hb (.int .u8 0)).setCell (p := ⟨b, 8, none⟩) hb (.int .u8 0)).setCell (p := ⟨b, 9, none⟩) hb (.int .u8 0)).setCell (p := ⟨b, 10, none⟩) hb (.int .u8 0)).setCell (p := ⟨b, 11, none⟩) hb (.int .u8 0)).setCell (p := ⟨b, 12, none⟩) hb (.int .u8 0)).setCell (p := ⟨b, 13, none⟩) hb (.int .u8 0)).setCell (p := ⟨b, 14, none⟩) hb (.int .u8 0)).setCell (p := ⟨b, 15, none⟩) hb (.int .u8 0)).setCell (p := ⟨b, 16, none⟩) hb (.int .u8 0)).setCell (p := ⟨b, 17, none⟩) hb (.int .u8 0)).setCell (p := ⟨b, 18, none⟩) hb (.int .u8 0)).setCell (p := ⟨b, 19, none⟩) hb (.int .u8 0)).setCell (p := ⟨b, 20, none⟩) hb (.int .u8 0))
end Go.Proofs.YtacgcpofpmkgnaaDoor
