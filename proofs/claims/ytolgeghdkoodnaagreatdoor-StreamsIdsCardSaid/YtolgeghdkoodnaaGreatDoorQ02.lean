/- Parts of the proof: PaS VarB VarC VarD AppS AppB GaB. -/
import Derived.Test.YtolgeghdkoodnaaGreatDoorQ01
import Derived.Deep.MidRow
import Derived.Deep.WholeRow
import Derived.Deep.RegionWith
import Derived.WalkSpells
import Derived.Deep.RegionLaw
import Derived.Laws.Tables
import Derived.Laws.StructEq
import Derived.ChangeKeysEq
set_option maxRecDepth 100000
namespace Go.Proofs.YtolgeghdkoodnaaGreatDoor
open Go.RowKit
theorem Blk.range {w : World} {b : Nat} {C : Array Value} {T : TypeId} (h : Blk w b C T) (o : Nat) (cs : List Value) (hc : ∀ j v, cs[j]? = some v → C[o + j]? = some v) : w.rangeAt b o cs := fun j v hv => (h.cell (o + j)).trans (hc j v hv)
theorem Blk.whole {w : World} {b : Nat} {C : Array Value} {T : TypeId} (h : Blk w b C T) : w.rangeAt b 0 C.toList := h.range 0 _ (fun j v hv => by rw [Nat.zero_add]; simpa using hv)
theorem blk_loadVar {P : Program} {w : World} {b : Nat} {C : Array Value} {T ty : TypeId} {d : TypeDesc} (h : Blk w b C T) (hu : P.underlying ty = some d) (hd : d.isRow = true) (hi : (P.info? ty).map (·.size) = some C.size) :
  (loadVar ty ⟨b, 0, none⟩).run P w = .ok (.agg C) w := run_loadVar_mid w b 0 ty C.toList d h.whole hu hd hi
theorem wpList_load_blk {P : Program} {ops : Array Oper} {rest : List Oper} {op : Oper} {a : Act} {w : World} {Q : Exit → Act → World → Prop} (hgd : op.guard = none) (ty : TypeId) (x : Operand) (ho : op.op = .load ty x)
  (b : Nat) (hx : a.eval x = .pointer (some ⟨b, 0, none⟩)) (C : Array Value) (T : TypeId) (d : TypeDesc) (h : Blk w b C T)
  (hu : P.underlying ty = some d) (hd : d.isRow = true) (hi : (P.info? ty).map (·.size) = some C.size)
  (k : wpList P ops Q rest (a.put op.dst (.agg C)) w) : wpList P ops Q (op :: rest) a w :=
 wpList_load_mid hgd ty x ho b 0 hx C.toList d h.whole hu hd hi k
theorem blk_setCells' {b : Nat} {T : TypeId} : ∀ (vs : List Value) (o : Nat) (w : World) (cs : Array Value), Blk w b cs T → o + vs.length ≤ cs.size → ∃ cs', Blk (w.setCells b o vs) b cs' T ∧ cs'.size = cs.size ∧ cs'.toList = cs.toList.take o ++ vs ++ cs.toList.drop (o + vs.length)
 | [], o, w, cs, h, _ => ⟨cs, h, rfl, by simp⟩
 | v :: vs, o, w, cs, h, hl => by
  simp only [List.length_cons] at hl ⊢
  obtain ⟨cs', h1, h2, h3⟩ := blk_setCells' vs (o + 1) (w.setCell ⟨b, o, none⟩ v) (cs.setIfInBounds o v) (h.set o v) (by rw [Array.size_setIfInBounds]; omega)
  refine ⟨cs', h1, by simpa using h2, ?_⟩
  rw [h3]
  have hlo : o < cs.toList.length := by simp; omega
  rw [Array.toList_setIfInBounds, List.take_add_one, List.getElem?_set_self hlo, List.take_set_of_le (Nat.le_refl _), List.drop_set_of_lt (by omega), show o + 1 + vs.length = o + (vs.length + 1) by omega]
  simp
theorem mod_setCells {a : World} {b : Nat} : ∀ (vs : List Value) (o : Nat) (w : World), Mod (fun k => k = b) a w → Mod (fun k => k = b) a (w.setCells b o vs)
 | [], _, _, h => h
 | v :: vs, o, _, h => mod_setCells vs (o + 1) _ (h.setCell (p := ⟨b, o, none⟩) (fun _ => rfl) v)
theorem blk_store {P : Program} {w : World} {b : Nat} {C cells : Array Value} {T : TypeId} (o : Nat) (ty : TypeId) (h : Blk w b C T) (hi : (P.info? ty).map (·.size) = some cells.size) (hl : o + cells.size ≤ C.size) (h1 : ∀ v ∈ cells.toList, v.oneCell' = true) :
  ∃ w' C', (storeVar ty ⟨b, o, none⟩ (.agg cells)).run P w = .ok () w' ∧ Blk w' b C' T ∧ C'.size = C.size ∧ C'.toList = C.toList.take o ++ cells.toList ++ C.toList.drop (o + cells.size) ∧ Mod (fun k => k = b) w w' := by
 have ht : w.there b o cells.size := fun j hj => ⟨by rw [h.cell]; simp; omega, h.free _⟩
 obtain ⟨C', h2, h3, h4⟩ := blk_setCells' cells.toList o w C h (by simpa using hl)
 refine ⟨_, C', run_storeVar_mid w b o ty cells ht hi (Array.all_eq_true_iff_forall_mem.2 (fun v hv => h1 v (by simpa using hv))), h2, h3, by simpa using h4, mod_setCells _ _ _ (Mod.refl _ _)⟩
theorem wpList_store_blk {P : Program} {ops : Array Oper} {rest : List Oper} {op : Oper} {a : Act} {w : World} {Q : Exit → Act → World → Prop} (hgd : op.guard = none) (ty : TypeId) (x y : Operand) (ho : op.op = .store ty x y)
  (b : Nat) (hx : a.eval x = .pointer (some ⟨b, 0, none⟩)) (C cells : Array Value) (hy : a.eval y = .agg cells) (T : TypeId) (h : Blk w b C T) (hi : (P.info? ty).map (·.size) = some cells.size) (hl : C.size = cells.size) (h1 : ∀ v ∈ cells.toList, v.oneCell' = true)
  (k : ∀ w', Blk w' b cells T → Mod (fun k => k = b) w w' → wpList P ops Q rest (a.put op.dst undef) w') : wpList P ops Q (op :: rest) a w := by
 obtain ⟨w', C', hr, hB, hs, he, hM⟩ := blk_store (P := P) 0 ty h hi (by omega) h1
 have e : C' = cells := by
  apply Array.toList_inj.1
  rw [he, List.drop_of_length_le (by simp; omega)]
  simp
 subst e
 refine wpList_plain hgd fun K hK => ?_
 unfold Oper.wp execOp
 simp only [ho, hx, hy, Instr.storeAt, Instr.sureAddr, Sem.run_bind, Sem.run_pure, Result.andThen_ok, hr]
 exact hK _ _ (k w' hB hM)
theorem results_cell {P : Program} {w : World} {fn : Func} {t : Tmp} {ty : TypeId} {b : Nat} {v : Value} (h : fn.results = #[.cell t ty]) (tmps : Array Value) (ha : tmps.getD t undef = .pointer (some ⟨b, 0, none⟩)) (hl : (loadVar ty ⟨b, 0, none⟩).run P w = .ok v w) :
  (results fn tmps).run P w = .ok v w := by
 have ha' : (tmps[t]?).getD undef = .pointer (some ⟨b, 0, none⟩) := by simpa using ha
 simp only [results, h]
 simp [ha', asAddr, hl]
theorem results_cell_tmp {P : Program} {w : World} {fn : Func} {t u : Tmp} {ty : TypeId} {b : Nat} {v : Value} (h : fn.results = #[.cell t ty, .tmp u]) (tmps : Array Value) (ha : tmps.getD t undef = .pointer (some ⟨b, 0, none⟩)) (hl : (loadVar ty ⟨b, 0, none⟩).run P w = .ok v w) :
  (results fn tmps).run P w = .ok (.tuple #[v, tmps.getD u undef]) w := by
 have ha' : (tmps[t]?).getD undef = .pointer (some ⟨b, 0, none⟩) := by simpa using ha
 simp only [results, h]
 simp [ha', asAddr, hl]
end Go.Proofs.YtolgeghdkoodnaaGreatDoor
set_option maxRecDepth 100000
namespace Go.Proofs.YtolgeghdkoodnaaGreatDoor
open Go.RowKit
theorem Tryz.info5 : (Tryz.prog.info? 5).map (fun i => (i.zero, i.size, i.bytes)) = some (some (.int .u8 0), 1, 1) := by kernel_rfl
set_option maxRecDepth 10000 in
theorem wide_none (n : Nat) (size : Int) (w : World) (hs : -9223372036854775808 ≤ size ∧ size ≤ 9223372036854775807) (hf : fits n size = false) :
  Calls Tryz.prog 171 #[.int .u64 (n : Int), .int .i64 size] w fun e w' => w = w' ∧ e = .returned (.slice none 0 0) := by
 have hfit : ¬ (szN n ≠ 0 ∧ (szN n : Int) ≤ size ∧ (size = 1 ∨ size = 2 ∨ size = 4 ∨ size = 8)) := by rw [← fits_sz, hf]; simp
 have hsz : (szN n : Int) ≤ 8 := by rcases szN_cases n with h | h | h | h | h <;> omega
 have HS := Lib.hid (size_any n)
 generalize szN n = k at *
 obtain ⟨hs1, hs2⟩ := hs
 by_cases h0 : (k : Int) = 0
 ·have hk0 : ((k : Int) == 0) = true := by simp [h0]
  have HF := Lib.hid hfit
  have H0 := Lib.hid h0
  clear hfit h0 hf
  go_enter Tryz.func171, Tryz.ntmps171
  go_wp2_with (go_at_call 172; refine (HS.out _).mono ?_; rintro e w' ⟨rfl, rfl⟩)
  go_ret
  exact ⟨rfl, rfl⟩
 have hk0 : ((k : Int) == 0) = false := by simp; omega
 by_cases h1 : size < (k : Int)
 ·have HF := Lib.hid hfit
  clear hfit h0 hf
  go_enter Tryz.func171, Tryz.ntmps171
  go_wp2_with (go_at_call 172; refine (HS.out _).mono ?_; rintro e w' ⟨rfl, rfl⟩)
  go_ret
  exact ⟨rfl, rfl⟩
 by_cases h2 : 8 < size
 ·have HF := Lib.hid hfit
  clear hfit h0 hf
  go_enter Tryz.func171, Tryz.ntmps171
  go_wp2_with (go_at_call 172; refine (HS.out _).mono ?_; rintro e w' ⟨rfl, rfl⟩)
  go_ret
  exact ⟨rfl, rfl⟩
 have h3 : size = 3 ∨ size = 5 ∨ size = 6 ∨ size = 7 := by omega
 have ho : (onesOf size != 1) = true := by rcases h3 with rfl | rfl | rfl | rfl <;> rfl
 have hsn : 1 ≤ size := by omega
 have HF := Lib.hid hfit
 clear hfit h0 hf h3
 go_enter Tryz.func171, Tryz.ntmps171
 go_wp2_with (first | (go_at_call 172; refine (HS.out _).mono ?_; rintro e w' ⟨rfl, rfl⟩) | (go_at_call 183; refine (oc_any _ _ (by omega) (by omega)).mono ?_; rintro e w' ⟨rfl, rfl⟩))
 go_ret
 exact ⟨rfl, rfl⟩
theorem wide_end (n j : Nat) (w wr : World) (hn : n < 64 * 256 ^ (j - 1)) (h1 : (1 : Int) ≤ j) (h8 : (j : Int) ≤ 8) (hB : Blk wr w.heap.size (List.replicate (j - j) (bv 0) ++ (be j n).map bv).toArray 5) :
  OwnB (wr.setCell ⟨w.heap.size, 0, none⟩ (.int .u8 (bits BinOp.or IntKind.u8 ((n : Int) / 256 ^ (j - 1) % 256) ((tg j : Int) * 64)))).drew w.heap.size (.slice (some ⟨w.heap.size, 0, none⟩) j j) (wd n j) := by
 obtain ⟨e, hx⟩ := wd_first n j (by omega) hn (tg_lt j)
 have hb := hB.set 0 (.int .u8 (bits BinOp.or IntKind.u8 ((n : Int) / 256 ^ (j - 1) % 256) ((tg j : Int) * 64)))
 have hl : (wd n j).length = j := by simp [wd]
 have ht := tg_lt j
 have hv : Value.int .u8 (bits BinOp.or IntKind.u8 ((n : Int) / 256 ^ (j - 1) % 256) ((tg j : Int) * 64)) = bv (UInt8.ofNat (n / 256 ^ (j - 1) + 64 * tg j)) := by
  unfold bv
  rw [or_byte n (j - 1) (tg j) hx ht]
 have hc : (List.replicate (j - j) (bv 0) ++ (be j n).map bv).toArray.setIfInBounds 0 (.int .u8 (bits BinOp.or IntKind.u8 ((n : Int) / 256 ^ (j - 1) % 256) ((tg j : Int) * 64))) = ((wd n j).map bv).toArray := by
  rw [hv, e]
  obtain ⟨k, rfl⟩ : ∃ k, j = k + 1 := ⟨j - 1, by omega⟩
  simp [be_front]
 rw [hc] at hb
 unfold OwnB
 have := own_of_blk (base := w.heap.size) hb (Nat.le_refl _) (n := j) (by simp [hl]) (by unfold maxLen; omega)
 rw [hl]
 exact this
set_option maxHeartbeats 1000000 in
set_option maxRecDepth 10000 in
theorem wide_some (n s : Nat) (w : World) (hT : Tabs w) (hf : fits n (s : Int) = true) :
  Calls Tryz.prog 171 #[.int .u64 (n : Int), .int .i64 (s : Int)] w fun e w' => ∃ v, e = .returned v ∧ OwnB w' w.heap.size v (wd n s) ∧ Mod (fun _ => False) w w' := by
 obtain ⟨hs1, hs8, hn, hs⟩ := fits_bound n s hf
 have hfit := (fits_sz n (s : Int)).1 hf
 have HS := Lib.hid (size_any n)
 have HN := Lib.hid hn
 have HS4 := Lib.hid hs
 have HT := Lib.hid hT
 generalize szN n = k at *
 have hk0 : ((k : Int) == 0) = false := by simp; omega
 have hks : (k : Int) ≤ s := by omega
 have ho : (onesOf (s : Int) != 1) = false := by rcases hs with rfl | rfl | rfl | rfl <;> rfl
 have hs1i : (1 : Int) ≤ s := by omega
 have hs8i : (s : Int) ≤ 8 := by omega
 clear hfit hf hs hn hT hs1 hs8
 obtain ⟨i0, hi, hz0, hz1, hz2⟩ := info_parts Tryz.info5
 go_enter Tryz.func171, Tryz.ntmps171
 go_wp2_with (first | (go_at_call 172; refine (HS.out _).mono ?_; rintro e w' ⟨rfl, rfl⟩) | (go_at_call 183; refine (oc_any _ _ (by omega) (by omega)).mono ?_; rintro e w' ⟨rfl, rfl⟩) | (at_make; go_must (refine wpList_make_full _ rfl _ _ 42 rfl w.heap.size 5 i0 (.int .u8 0) 1 Tryz.underlying42 hi hz0 hz1 _ _ _ _ s rfl rfl rfl rfl (by rw [hz2]; omega) (by unfold maxLen; omega) (Nat.le_refl _) ?_)))
 intro w1 hown hgrow
 have hB := own_full hown
 rw [toList_madeCells_one] at hB
 have hM := (Mod.refl (fun _ => False) w).grown hgrow (fun k h => by simp at h)
 clear hown hgrow
 go_wp2
 go_loopw [31] (fun i wr => ∃ k : Nat, k ≤ s ∧ i = .int .i64 k ∧ Blk wr w.heap.size (List.replicate (s - k) (bv 0) ++ (be k n).map bv).toArray 5 ∧ Mod (fun _ => False) w wr) (fun i _ => s - (intOf i).toNat)
 case atStart => exact ⟨0, Nat.zero_le _, rfl, by rw [be]; simpa [bv] using hB, hM⟩
 case round =>
  clear hB hM
  obtain ⟨j, hj, rfl, hB, hM⟩ := hrel
  by_cases hlt : (j : Int) < s
  ·have hc := hB.cellAt (s - 1 - j) (get_rep _ _ _ _ (by omega))
   have hfz := hB.free (s - 1 - j)
   go_wp2
   go_roundw
   case rel =>
    refine ⟨j + 1, by omega, by go_num, ?_, hM.setCell (fun h => by simp at h) _⟩
    have := hB.set (s - 1 - j) (.int .u8 ((n : Int) / 2 ^ (8 * j) % 256))
    rw [set_rep _ _ _ _ _ (by omega), byte_shr] at this
    rw [be_front, List.map_cons, byte_shr]
    exact this
   case measure => simp [intOf]; omega
  ·obtain rfl : j = s := by omega
   have hc : wr.cell? ⟨w.heap.size, 0, none⟩ = some (bv (UInt8.ofNat (n / 256 ^ (j - 1)))) := by
    refine hB.cellAt 0 ?_
    obtain ⟨k, rfl⟩ : ∃ k, j = k + 1 := ⟨j - 1, by omega⟩
    simp [be_front]
   have hfz := hB.free 0
   unfold bv at hc
   have HTr := Lib.hid (hM.tabs HT.out (fun h => h))
   have htg : (tg j : Int) ≤ 3 := by have := tg_lt j; omega
   have hw1 : IntKind.i64.wrap ((tg j : Int) * 64) = (tg j : Int) * 64 := IntWalk.i64_in _ (by omega)
   have hw2 : IntKind.u8.wrap ((tg j : Int) * 64) = (tg j : Int) * 64 := IntWalk.u8_in _ (by omega)
   have hw64 : IntKind.u64.wrap (j : Int) = j := IntWalk.u64_in _ (by omega)
   go_wp2
   go_region_with (go_at_call 184; refine (tz_any j wr.drew HTr.out HS4.out).mono ?_; rintro e w' ⟨rfl, rfl⟩)
   all_goals go_wp2
   all_goals go_ret
   all_goals exact ⟨_, rfl, wide_end n j w wr HN.out hs1i hs8i hB, (hM.setCell (fun h => by simp at h) _).drew⟩
end Go.Proofs.YtolgeghdkoodnaaGreatDoor
set_option maxRecDepth 100000
namespace Go.Proofs.YtolgeghdkoodnaaGreatDoor
open Go.RowKit
theorem wide_last (n j : Nat) (w wr : World) (V : Value) (hn : n < 64 * 256 ^ (j - 1)) (h1 : (1 : Int) ≤ j) (h8 : (j : Int) ≤ 8) (hB : Blk wr w.heap.size (List.replicate (j - j) (bv 0) ++ (be j n).map bv).toArray 5)
  (hV : V = bv (UInt8.ofNat (n / 256 ^ (j - 1) + 64 * tg j))) : OwnB (wr.setCell ⟨w.heap.size, 0, none⟩ V) w.heap.size (.slice (some ⟨w.heap.size, 0, none⟩) j j) (wd n j) := by
 obtain ⟨e, hx⟩ := wd_first n j (by omega) hn (tg_lt j)
 have hb := hB.set 0 V
 have hl : (wd n j).length = j := by simp [wd]
 have hc : (List.replicate (j - j) (bv 0) ++ (be j n).map bv).toArray.setIfInBounds 0 V = ((wd n j).map bv).toArray := by
  rw [hV, e]
  obtain ⟨k, rfl⟩ : ∃ k, j = k + 1 := ⟨j - 1, by omega⟩
  simp [be_front]
 rw [hc] at hb
 unfold OwnB
 have := own_of_blk (base := w.heap.size) hb (Nat.le_refl _) (n := j) (by simp [hl]) (by unfold maxLen; omega)
 rw [hl]
 exact this
theorem wide_one (n j : Nat) (w wr : World) (h : j = 1) (hB : Blk wr w.heap.size (List.replicate (j - j) (bv 0) ++ (be j n).map bv).toArray 5) :
  OwnB wr w.heap.size (.slice (some ⟨w.heap.size, 0, none⟩) j j) (wd n j) := by
 subst h
 have e : wd n 1 = be 1 n := by simp [wd, tg]
 unfold OwnB
 rw [e]
 have := own_of_blk (base := w.heap.size) (n := 1) (by simpa using hB) (Nat.le_refl _) (by simp) (by unfold maxLen; omega)
 simpa using this
theorem div_step (n j : Nat) : ((n / 256 ^ j : Nat) : Int) / 256 = ((n / 256 ^ (j + 1) : Nat) : Int) := by
 rw [Nat.pow_succ, ← Nat.div_div_eq_div_mul]; simp
theorem byte_mod (n j : Nat) : ((n / 256 ^ j : Nat) : Int) % 256 = ((UInt8.ofNat (n / 256 ^ j)).toNat : Int) := by simp
theorem quo_le {n s j : Nat} {q : Int} (hf : fits n (s : Int) = true) (hq : ((n / 256 ^ j : Nat) : Int) = q) : q ≤ 18446744073709551615 := by
 have := Nat.div_le_self n (256 ^ j)
 rw [fits_iff] at hf
 omega
set_option maxRecDepth 10000 in
theorem refwide_none (n : Nat) (size : Int) (w : World) (hf : fits n size = false) :
  Calls Tryz.prog 75 #[.int .u64 (n : Int), .int .i64 size] w fun e w' => w = w' ∧ e = .returned (.slice none 0 0) := by
 have HF := Lib.hid hf
 clear hf
 go_enter Tryz.func75, Tryz.ntmps75
 go_wp2_with (go_at_call 146; refine (fits_any _ _ _).mono ?_; rintro e w' ⟨rfl, rfl⟩; rw [HF.out])
 go_ret
 exact ⟨rfl, rfl⟩
set_option maxHeartbeats 1000000 in
set_option maxRecDepth 10000 in
theorem refwide_some (n s : Nat) (w : World) (hf : fits n (s : Int) = true) :
  Calls Tryz.prog 75 #[.int .u64 (n : Int), .int .i64 (s : Int)] w fun e w' => ∃ v, e = .returned v ∧ OwnB w' w.heap.size v (wd n s) ∧ Mod (fun _ => False) w w' := by
 obtain ⟨hs1, hs8, hn, hs⟩ := fits_bound n s hf
 have HF := Lib.hid hf
 have HN := Lib.hid hn
 have HS4 := Lib.hid hs
 have hs1i : (1 : Int) ≤ s := by omega
 have hs8i : (s : Int) ≤ 8 := by omega
 clear hf hs hn hs1 hs8
 obtain ⟨i0, hi, hz0, hz1, hz2⟩ := info_parts Tryz.info5
 go_enter Tryz.func75, Tryz.ntmps75
 go_wp2_with (first | (go_at_call 146; refine (fits_any _ _ _).mono ?_; rintro e w' ⟨rfl, rfl⟩; rw [HF.out]) | (at_make; go_must (refine wpList_make_full _ rfl _ _ 42 rfl w.heap.size 5 i0 (.int .u8 0) 1 Tryz.underlying42 hi hz0 hz1 _ _ _ _ s rfl rfl rfl rfl (by rw [hz2]; omega) (by unfold maxLen; omega) (Nat.le_refl _) ?_)))
 intro w1 hown hgrow
 have hB := own_full hown
 rw [toList_madeCells_one] at hB
 have hM := (Mod.refl (fun _ => False) w).grown hgrow (fun k h => by simp at h)
 clear hown hgrow
 go_wp2
 go_loopw [0, 6] (fun m i wr => ∃ k : Nat, k ≤ s ∧ i = .int .i64 ((s : Int) - 1 - k) ∧ m = .int .u64 ((n / 256 ^ k : Nat) : Int) ∧ Blk wr w.heap.size (List.replicate (s - k) (bv 0) ++ (be k n).map bv).toArray 5 ∧ Mod (fun _ => False) w wr) (fun _ i _ => (intOf i + 1).toNat)
 case atStart => exact ⟨0, Nat.zero_le _, by go_num, by simp, by rw [be]; simpa [bv] using hB, hM⟩
 case round =>
  clear hB hM
  obtain ⟨j, hj, rfl, rfl, hB, hM⟩ := hrel
  by_cases hlt : (j : Int) < s
  ·have hc := hB.cellAt (s - 1 - j) (get_rep _ _ _ _ (by omega))
   have hfz := hB.free (s - 1 - j)
   have hd := Lib.hid (div_step n j)
   have hm := Lib.hid (byte_mod n j)
   have hq0 : 0 ≤ ((n / 256 ^ j : Nat) : Int) := Int.natCast_nonneg _
   generalize hqq : ((n / 256 ^ j : Nat) : Int) = q at *
   have HQ := Lib.hid hqq
   clear hqq
   go_wp2
   go_roundw
   case rel =>
    refine ⟨j + 1, by omega, by go_num, ?_, ?_, hM.setCell (fun h => by simp at h) _⟩
    ·rw [← hd.out, IntWalk.u64_quo q 256 ⟨hq0, quo_le HF.out HQ.out, by omega⟩]
    ·have := hB.set (s - 1 - j) (.int .u8 (q % 256))
     rw [set_rep _ _ _ _ _ (by omega), hm.out] at this
     rw [be_front, List.map_cons, hm.out]
     exact this
   case measure => simp [intOf]; omega
  ·obtain rfl : j = s := by omega
   obtain ⟨X, hX, hX0, hX1, hc⟩ : ∃ X : Int, X = ((n / 256 ^ (j - 1) : Nat) : Int) ∧ 0 ≤ X ∧ X < 64 ∧ wr.cell? ⟨w.heap.size, 0, none⟩ = some (.int .u8 X) := by
    obtain ⟨_, hx⟩ := wd_first n j (by omega) HN.out (tg_lt j)
    refine ⟨_, rfl, Int.natCast_nonneg _, by omega, hB.cellAt 0 ?_⟩
    obtain ⟨k, rfl⟩ : ∃ k, j = k + 1 := ⟨j - 1, by omega⟩
    simp only [Nat.add_sub_cancel] at hx ⊢
    have e : (UInt8.ofNat (n / 256 ^ k)).toNat = n / 256 ^ k := UInt8.toNat_ofNat_of_lt' (by show _ < 256; omega)
    simp only [be_front, bv, Nat.sub_self, List.replicate_zero, List.nil_append, List.map_cons, e]
    rfl
   have HX := Lib.hid hX
   clear hX
   have hfz := hB.free 0
   have HV : ∀ t : Nat, tg j = t → Value.int .u8 (X + 64 * t) = bv (UInt8.ofNat (n / 256 ^ (j - 1) + 64 * tg j)) := by
    intro t ht
    have := tg_lt j
    rw [HX.out, ht]
    unfold bv
    rw [UInt8.toNat_ofNat_of_lt' (by show _ < 256; have := HX.out; omega)]
    simp
   have HVH := Lib.hid HV
   clear HV
   rcases HS4.out with e | e | e | e
   ·have h2 : ((j : Int) == 2) = false := by simp; omega
    have h4 : ((j : Int) == 4) = false := by simp; omega
    have h8 : ((j : Int) == 8) = false := by simp; omega
    have HE := Lib.hid e
    clear e
    go_wp2
    go_ret
    exact ⟨_, rfl, wide_one n j w wr HE.out hB, hM⟩
   ·have h2 : ((j : Int) == 2) = true := by simp; omega
    have HE := Lib.hid e
    clear e
    go_wp2
    go_ret
    exact ⟨_, rfl, wide_last n j w wr _ HN.out hs1i hs8i hB (HVH.out 1 (by rw [HE.out]; rfl)), hM.setCell (fun h => by simp at h) _⟩
   ·have h2 : ((j : Int) == 2) = false := by simp; omega
    have h4 : ((j : Int) == 4) = true := by simp; omega
    have HE := Lib.hid e
    clear e
    go_wp2
    go_ret
    exact ⟨_, rfl, wide_last n j w wr _ HN.out hs1i hs8i hB (HVH.out 2 (by rw [HE.out]; rfl)), hM.setCell (fun h => by simp at h) _⟩
   ·have h2 : ((j : Int) == 2) = false := by simp; omega
    have h4 : ((j : Int) == 4) = false := by simp; omega
    have h8 : ((j : Int) == 8) = true := by simp; omega
    have HE := Lib.hid e
    clear e
    go_wp2
    go_ret
    exact ⟨_, rfl, wide_last n j w wr _ HN.out hs1i hs8i hB (HVH.out 3 (by rw [HE.out]; rfl)), hM.setCell (fun h => by simp at h) _⟩
theorem OwnB.nil (w : World) (B : Nat) : OwnB w B (.slice none 0 0) [] := World.ownsRow_nil _ _ _ _
theorem wide_any (n : Nat) (size : Int) (w : World) (hT : Tabs w) (hs : -9223372036854775808 ≤ size ∧ size ≤ 9223372036854775807) :
  Calls Tryz.prog 171 #[.int .u64 (n : Int), .int .i64 size] w fun e w' => ∃ v, e = .returned v ∧ OwnB w' w.heap.size v (wideL n size) ∧ Mod (fun _ => False) w w' := by
 by_cases hf : fits n size = true
 ·have hp : 0 ≤ size := by rw [fits_iff] at hf; omega
  obtain ⟨s, rfl⟩ := Int.eq_ofNat_of_zero_le hp
  have e : wideL n (s : Int) = wd n s := by simp [wideL, hf]
  rw [e]
  exact wide_some n s w hT hf
 ·have e : wideL n size = [] := by simp [wideL, hf]
  rw [e]
  exact (wide_none n size w hs (by simpa using hf)).mono fun e w' ⟨h1, h2⟩ => ⟨_, h2, OwnB.nil _ _, h1 ▸ Mod.refl _ _⟩
theorem refwide_any (n : Nat) (size : Int) (w : World) :
  Calls Tryz.prog 75 #[.int .u64 (n : Int), .int .i64 size] w fun e w' => ∃ v, e = .returned v ∧ OwnB w' w.heap.size v (wideL n size) ∧ Mod (fun _ => False) w w' := by
 by_cases hf : fits n size = true
 ·have hp : 0 ≤ size := by rw [fits_iff] at hf; omega
  obtain ⟨s, rfl⟩ := Int.eq_ofNat_of_zero_le hp
  have e : wideL n (s : Int) = wd n s := by simp [wideL, hf]
  rw [e]
  exact refwide_some n s w hf
 ·have e : wideL n size = [] := by simp [wideL, hf]
  rw [e]
  exact (refwide_none n size w (by simpa using hf)).mono fun e w' ⟨h1, h2⟩ => ⟨_, h2, OwnB.nil _ _, h1 ▸ Mod.refl _ _⟩
theorem szN_le (n : Nat) : szN n ≤ 8 := by rcases szN_cases n with h | h | h | h | h <;> omega
set_option maxRecDepth 10000 in
theorem put_any (n : Nat) (w : World) (hT : Tabs w) :
  Calls Tryz.prog 142 #[.int .u64 (n : Int)] w fun e w' => ∃ v, e = .returned v ∧ OwnB w' w.heap.size v (putL n) ∧ Mod (fun _ => False) w w' := by
 have HT := Lib.hid hT
 clear hT
 have HS : Hid (-9223372036854775808 ≤ (szN n : Int) ∧ (szN n : Int) ≤ 9223372036854775807) := by have := szN_le n; exact ⟨by omega, by omega⟩
 go_enter Tryz.func142, Tryz.ntmps142
 go_wp2_with (first | (go_at_call 172; refine (size_any _ _).mono ?_; rintro e w' ⟨rfl, rfl⟩) | (go_at_call 171; refine (wide_any _ _ _ HT.out HS.out).mono ?_; rintro e w' ⟨v, rfl, hv, hM⟩))
 go_ret
 exact ⟨v, rfl, hv, hM⟩
set_option maxRecDepth 10000 in
theorem refput_any (n : Nat) (w : World) :
  Calls Tryz.prog 39 #[.int .u64 (n : Int)] w fun e w' => ∃ v, e = .returned v ∧ OwnB w' w.heap.size v (putL n) ∧ Mod (fun _ => False) w w' := by
 go_enter Tryz.func39, Tryz.ntmps39
 go_wp2_with (first | (go_at_call 76; refine (refsize_any _ _).mono ?_; rintro e w' ⟨rfl, rfl⟩) | (go_at_call 75; refine (refwide_any _ _ _).mono ?_; rintro e w' ⟨v, rfl, hv, hM⟩))
 go_ret
 exact ⟨v, rfl, hv, hM⟩
end Go.Proofs.YtolgeghdkoodnaaGreatDoor
set_option maxRecDepth 100000
namespace Go.Proofs.YtolgeghdkoodnaaGreatDoor
open Go.RowKit
theorem byts_val {w : World} {v : Value} {l : List UInt8} (h : Byts w v l) : ∃ a cap, v = .slice a l.length cap ∧ l.length ≤ cap ∧ cap ≤ maxLen ∧ (a = none → cap = 0) := Sl.val h
theorem byts_addr {w : World} {v : Value} {l : List UInt8} (h : Byts w v l) (hx : l ≠ []) :
  ∃ b off cap, v = .slice (some ⟨b, off, none⟩) l.length cap ∧ l.length ≤ cap ∧ cap ≤ maxLen ∧ ∀ j x, l[j]? = some x → w.cell? ⟨b, off + j, none⟩ = some (bv x) := by
 obtain ⟨b, off, cap, h1, h2, h3, h4⟩ := Sl.addr h (by simpa using hx)
 exact ⟨b, off, cap, h1, h2, h3, fun j x hj => h4 j (bv x) (by simp [hj])⟩
theorem take_snoc {α : Type} (l : List α) (k : Nat) (x : α) (h : l[k]? = some x) : l.take (k + 1) = l.take k ++ [x] := by
 rw [List.take_add_one, h]; rfl
set_option maxRecDepth 10000 in
theorem same_lens {w : World} {a b : Value} {la lb : List UInt8} (ha : Byts w a la) (hb : Byts w b lb) (h : la.length ≠ lb.length) :
  Calls Tryz.prog 25 #[a, b] w fun e w' => w = w' ∧ e = .returned (.bool false) := by
 obtain ⟨aa, ca, rfl, h1, h2, _⟩ := byts_val ha
 obtain ⟨ab, cb, rfl, h3, h4, _⟩ := byts_val hb
 unfold maxLen at h2 h4
 have hne : ((la.length : Int) != lb.length) = true := by simp; omega
 clear ha hb h h1 h2 h3 h4
 generalize la.length = n at *
 generalize lb.length = m at *
 go_enter Tryz.func25, Tryz.ntmps25
 go_wp2
 go_ret
 exact ⟨rfl, rfl⟩
set_option maxRecDepth 10000 in
theorem same_empty {w : World} {a b : Value} (ha : Byts w a []) (hb : Byts w b []) :
  Calls Tryz.prog 25 #[a, b] w fun e w' => w = w' ∧ e = .returned (.bool true) := by
 obtain ⟨aa, ca, rfl, h1, h2, _⟩ := byts_val ha
 obtain ⟨ab, cb, rfl, h3, h4, _⟩ := byts_val hb
 clear ha hb h1 h2 h3 h4
 simp only [List.length_nil]
 go_enter Tryz.func25, Tryz.ntmps25
 go_wp2
 refine wp_loop_rounds 1 ?_
 rw [rounds_succ]
 go_wp2
 go_ret
 exact ⟨rfl, rfl⟩
set_option maxRecDepth 10000 in
theorem same_some {w : World} {a b : Value} {la lb : List UInt8} (ha : Byts w a la) (hb : Byts w b lb) (h : la.length = lb.length) (h0 : la ≠ []) :
  Calls Tryz.prog 25 #[a, b] w fun e w' => (∃ q, w.drewN q = w') ∧ e = .returned (.bool (decide (la = lb))) := by
 obtain ⟨b1, o1, c1, rfl, h1, h2, hc1⟩ := byts_addr ha h0
 obtain ⟨b2, o2, c2, rfl, h3, h4, hc2⟩ := byts_addr hb (by intro e; subst e; simp at h; exact h0 h)
 unfold maxLen at h2 h4
 obtain ⟨n, hn⟩ : ∃ n, n = la.length := ⟨_, rfl⟩
 rw [← h, ← hn]
 have hn2 : (n : Int) ≤ 9223372036854775807 := by omega
 have HN := Lib.hid hn
 have HL := Lib.hid h
 have HC1 := Lib.hid hc1
 have HC2 := Lib.hid hc2
 clear ha hb hn h hc1 hc2 h1 h2 h3 h4 h0
 go_enter Tryz.func25, Tryz.ntmps25
 go_wp2
 go_loopw [5] (fun i wr => ∃ k q : Nat, k ≤ n ∧ i = .int .i64 k ∧ w.drewN q = wr ∧ Hid (la.take k = lb.take k)) (fun i _ => n - (intOf i).toNat)
 case atStart => exact ⟨0, 0, Nat.zero_le _, rfl, rfl, rfl⟩
 case round =>
  obtain ⟨k, q, hk, rfl, rfl, HT⟩ := hrel
  by_cases hlt : (k : Int) < n
  ·have hka : k < la.length := by have := HN.out; omega
   have hkb : k < lb.length := by have := HL.out; omega
   have e1 : la[k]? = some la[k] := List.getElem?_eq_getElem hka
   have e2 : lb[k]? = some lb[k] := List.getElem?_eq_getElem hkb
   have g1 : w.cell? ⟨b1, o1 + k, none⟩ = some (bv la[k]) := HC1.out k _ e1
   have g2 : w.cell? ⟨b2, o2 + k, none⟩ = some (bv lb[k]) := HC2.out k _ e2
   have HE1 := Lib.hid e1
   have HE2 := Lib.hid e2
   generalize la[k] = x at *
   generalize lb[k] = y at *
   unfold bv at g1 g2
   clear e1 e2 hka hkb
   by_cases hxy : x = y
   ·subst hxy
    go_wp2
    go_quiet (fail)
    go_wp2
    go_roundw
    case rel => exact ⟨k + 1, _, by omega, by go_num, rfl, by show _ = _; rw [take_snoc _ _ _ HE1.out, take_snoc _ _ _ HE2.out, HT.out]⟩
    case measure => simp [intOf]; omega
   ·have hb : ((x.toNat : Int) != y.toNat) = true := by
     simp only [bne_iff_ne, ne_eq, Int.natCast_inj, UInt8.toNat_inj]; exact hxy
    have HX := Lib.hid hxy
    clear hxy
    go_wp2
    go_quiet (fail)
    go_wp2
    go_ret
    refine ⟨⟨_, (World.drewN_drewN ..).symm⟩, ret_bool ?_⟩
    simp only [Bool.false_eq, decide_eq_false_iff_not]
    rintro rfl
    have := HE1.out.symm.trans HE2.out
    simp at this
    exact HX.out this
  ·go_wp2
   go_ret
   have e : la = lb := by
    have h1 := HT.out
    rwa [List.take_of_length_le (by have := HN.out; omega), List.take_of_length_le (by have := HN.out; have := HL.out; omega)] at h1
   refine ⟨⟨_, rfl⟩, ret_bool ?_⟩
   simp [e]
theorem same_any {w : World} {a b : Value} {la lb : List UInt8} (ha : Byts w a la) (hb : Byts w b lb) :
  Calls Tryz.prog 25 #[a, b] w fun e w' => (∃ q, w.drewN q = w') ∧ e = .returned (.bool (decide (la = lb))) := by
 by_cases h : la.length = lb.length
 ·by_cases h0 : la = []
  ·subst h0
   obtain rfl : lb = [] := List.eq_nil_of_length_eq_zero (by simpa using h.symm)
   exact (same_empty ha hb).mono fun e w' ⟨h1, h2⟩ => ⟨⟨0, h1⟩, by simpa using h2⟩
  ·exact same_some ha hb h h0
 ·have : la ≠ lb := by rintro rfl; exact h rfl
  exact (same_lens ha hb h).mono fun e w' ⟨h1, h2⟩ => ⟨⟨0, h1⟩, by simpa [this] using h2⟩
set_option maxRecDepth 10000 in
theorem clone_any {w : World} {v : Value} {l : List UInt8} (h : Byts w v l) (hr : (l.length : Int) ≤ 140737488355328) :
  Calls Tryz.prog 145 #[v] w fun e w' => ∃ v', e = .returned v' ∧ OwnB w' w.heap.size v' l ∧ Mod (fun _ => False) w w' := by
 obtain ⟨a, cap, rfl, h1, h2, h3⟩ := byts_val h
 have hnil := fun (w : World) (a : Option Addr) (n c : Nat) => Lib.run_eql_slice_nil (P := Tryz.prog) w 42 5 a n c 0 0 Tryz.underlying42
 cases a with
 | none =>
  obtain rfl := h3 rfl
  obtain rfl : l = [] := List.eq_nil_of_length_eq_zero (by omega)
  clear h h1 h2 h3
  go_enter Tryz.func145, Tryz.ntmps145
  go_wp2
  go_ret
  exact ⟨_, rfl, OwnB.nil _ _, Mod.refl _ _⟩
 | some ad =>
  have H : Hid (Sl w 1 (.slice (some ad) l.length cap) l.length (l.map bv)) := h
  have HR := Lib.hid hr
  clear h h1 h2 hr h3
  obtain ⟨i0, hi, hz0, hz1, hz2⟩ := info_parts Tryz.info5
  generalize l.length = n at *
  go_enter Tryz.func145, Tryz.ntmps145
  go_wp2_with (at_builtin; go_must (refine wpList_append_sl rfl _ _ 42 rfl w.heap.size 5 i0 (.int .u8 0) 1 1 Tryz.underlying42 hi hz0 hz1 hz2 rfl (by decide) _ 0 [] rfl (World.ownsRow_made w #[] 0 (Nat.le_refl _) (by decide) rfl) _ n (l.map bv) rfl (H.out.kept ((Mod.refl (fun _ => False) w).alloc _) (fun _ _ h => h)) (bv_one l) (by have := HR.out; omega) (by decide) (by simp) ?_); intro v' w1 hown hgrow)
  go_ret
  have hl := H.out.1
  simp only [Nat.zero_add, List.nil_append] at hown
  refine ⟨v', rfl, ?_, ((Mod.refl _ w).alloc _).grown hgrow (fun k hk hlt => Nat.lt_irrefl _ ((Option.some.inj hk).symm ▸ hlt))⟩
  unfold OwnB
  have e : l.length = n := by simpa using hl
  rw [e]
  exact hown
end Go.Proofs.YtolgeghdkoodnaaGreatDoor
set_option maxRecDepth 100000
namespace Go.Proofs.YtolgeghdkoodnaaGreatDoor
open Go.RowKit
theorem step_append_sl {P : Program} {w : World} {ops : Array Oper} {o : Oper} {a : Act} {K : Act → World → Prop} {Q : Exit → Act → World → Prop} {E : Prop} (hgd : o.guard = none) (s x : Operand) (t : TypeId)
  (ho : o.op = .call { callee := .builtin .append, args := #[s, x], argTypes := #[t, t] })
  (base : Nat) (e : TypeId) (i : TypeInfo) (z : Value) (size bytes : Nat) (ht : P.underlying t = some (.slice e)) (hi : P.info? e = some i) (hz : i.zero = some z)
  (hsize : i.size = size) (hby : i.bytes = bytes) (hzs : z.cells.size = size) (hsz : 0 < size)
  (v : Value) (n : Nat) (xs : List Value) (hs : a.eval s = v) (hown : w.ownsRow base e size v n xs)
  (sv : Value) (m : Nat) (news : List Value) (hx : a.eval x = sv) (hsl : Sl w size sv m news) (h1 : ∀ u ∈ news, u.oneCell' = true)
  (hbytes : (n + m) * bytes ≤ 140737488355328) (hb0 : 0 < bytes) (hbase : base ≤ w.heap.size)
  (h : ∀ v' w', w'.ownsRow base e size v' (n + m) (xs ++ news) → w.grownBy w' v.ownBlock → K (a.put o.dst v') w') :
  if Region.wanted o (yielded ops a.tmps) = true then Oper.wp P o a w K Q else E := by
 have hw : Region.wanted o (yielded ops a.tmps) = true := by simp [Region.wanted, hgd]
 rw [if_pos hw]
 have h63 : n + m ≤ maxLen := by
  have := Nat.le_trans (Nat.le_mul_of_pos_right (n + m) hb0) hbytes
  unfold maxLen; omega
 obtain ⟨hl, ao, c, rfl, hc1, hc2, hc3, hc4⟩ := hsl
 cases ao with
 | none =>
  obtain rfl := hc3 rfl
  obtain rfl : m = 0 := by omega
  obtain rfl : news = [] := List.eq_nil_of_length_eq_zero (by simpa using hl)
  have hrun := run_append_owned_none (P := P) (w := w) base t o.type e i size ht hi v n xs hown
  unfold Oper.wp
  simp [execOp, ho, resolve, invoke, builtin, hs, hx, hrun, Result.andThen]
  exact h v w (by simpa using hown) (World.grownBy.refl _ _)
 | some ad =>
  refine wp_append_own w s x t ho base e i z size bytes ht hi hz hsize hby hzs hsz v n xs hs hown ad m c news hx hl ?_ h1 h63 hbytes hbase (fun v' w' h2 h3 _ => h v' w' h2 h3)
  intro j u hu
  obtain ⟨b, off, he, hcell⟩ := hc4 j u hu
  simp at he; subst he
  rw [Addr.add_lit]; exact hcell
theorem own_mono {w : World} {B B' : Nat} {e : TypeId} {size n : Nat} {v : Value} {xs : List Value} (h : w.ownsRow B e size v n xs) (hB : B' ≤ B) : w.ownsRow B' e size v n xs := by
 obtain ⟨h1, h2⟩ := h
 refine ⟨h1, ?_⟩
 rcases h2 with h2 | ⟨g, cap, cur, hv, hg, r⟩
 ·exact .inl h2
 ·exact .inr ⟨g, cap, cur, hv, by omega, r⟩
end Go.Proofs.YtolgeghdkoodnaaGreatDoor
set_option maxRecDepth 100000
namespace Go.Proofs.YtolgeghdkoodnaaGreatDoor
open Go.RowKit
theorem OwnB.kept {S : Nat → Prop} {w w' : World} {B : Nat} {v : Value} {l : List UInt8} (h : OwnB w B v l) (hM : Mod S w w') (hS : ∀ g, v.ownBlock = some g → ¬ S g) : OwnB w' B v l := hM.own h hS
theorem OwnB.keptF {w w' : World} {B : Nat} {v : Value} {l : List UInt8} (h : OwnB w B v l) (hM : Mod (fun _ => False) w w') : OwnB w' B v l := hM.own h (fun _ _ h => h)
theorem OwnB.drew {w : World} {B : Nat} {v : Value} {l : List UInt8} (h : OwnB w B v l) : OwnB w.drew B v l := h.keptF (Mod.refl _ _).drew
theorem OwnB.alloc {w : World} {B : Nat} {v : Value} {l : List UInt8} (h : OwnB w B v l) (o : Obj) : OwnB (w.alloc o) B v l := h.keptF ((Mod.refl _ _).alloc o)
theorem OwnB.mono {w : World} {B B' : Nat} {v : Value} {l : List UInt8} (h : OwnB w B v l) (hB : B' ≤ B) : OwnB w B' v l := own_mono h hB
theorem own_lit (w : World) (l : List UInt8) (cs : Array Value) (n B : Nat) (hc : cs = (l.map bv).toArray) (hn : l.length = n) (hm : n ≤ maxLen) (hB : B ≤ w.heap.size) :
  OwnB (w.alloc (.cells cs 5)) B (.slice (some ⟨w.heap.size, 0, none⟩) n n) l := by
 subst hc; subst hn
 exact own_of_blk (Blk.new _ _ _) hB (by simp) hm
theorem byts_kept {w w' : World} {v : Value} {l : List UInt8} (h : Byts w v l) (hM : Mod (fun _ => False) w w') : Byts w' v l := h.kept hM (fun _ _ h => h)
theorem byts_drew {w : World} {v : Value} {l : List UInt8} (h : Byts w v l) : Byts w.drew v l := byts_kept h (Mod.refl _ _).drew
theorem byts_lit (w : World) (l : List UInt8) (cs : Array Value) (n : Nat) (hc : cs = (l.map bv).toArray) (hn : l.length = n) (hm : n ≤ maxLen) :
  Byts (w.alloc (.cells cs 5)) (.slice (some ⟨w.heap.size, 0, none⟩) n n) l := (own_lit w l cs n 0 hc hn hm (Nat.zero_le _)).byts
theorem grown_mod {w0 w w' : World} {B : Nat} {v : Value} {l : List UInt8} (hM : Mod (fun _ => False) w0 w) (hg : w.grownBy w' v.ownBlock) (ho : OwnB w B v l) (hB : w0.heap.size ≤ B) : Mod (fun _ => False) w0 w' :=
 hM.grown hg (fun k hk hlt => by have := (World.ownsRow.lt ho k hk).1; omega)
structure App (w w' : World) (B n : Nat) (v v' : Value) (l : List UInt8) : Prop where
 own : OwnB w' B v' l
 byts : Byts w' v' l
 val : ∃ a c, v' = .slice a n c
 mod : ∀ {w0 : World} {S : Nat → Prop}, Mod S w0 w → (∀ g, v.ownBlock = some g → g < w0.heap.size → S g) → Mod S w0 w'
 lt : ∀ g, v.ownBlock = some g → B ≤ g
theorem step_append_b {w : World} {ops : Array Oper} {o : Oper} {a : Act} {K : Act → World → Prop} {Q : Exit → Act → World → Prop} {E : Prop} (hgd : o.guard = none) (s x : Operand)
  (ho : o.op = .call { callee := .builtin .append, args := #[s, x], argTypes := #[42, 42] })
  (v : Value) (l : List UInt8) (B n : Nat) (hs : a.eval s = v) (hown : OwnB w B v l)
  (sv : Value) (news : List UInt8) (hx : a.eval x = sv) (hsl : Byts w sv news) (L : List UInt8) (hL : L = l ++ news) (hn : l.length + news.length = n) (hbytes : (n : Int) ≤ 140737488355328) (hbase : B ≤ w.heap.size)
  (h : ∀ ap cp w', App w w' B n v (.slice ap n cp) L → K (a.put o.dst (.slice ap n cp)) w') :
  if Region.wanted o (yielded ops a.tmps) = true then Oper.wp Tryz.prog o a w K Q else E := by
 subst hL
 obtain ⟨i0, hi, hz0, hz1, hz2⟩ := info_parts Tryz.info5
 refine step_append_sl hgd s x 42 ho B 5 i0 (.int .u8 0) 1 1 Tryz.underlying42 hi hz0 hz1 hz2 rfl (by decide) v l.length (l.map bv) hs hown sv news.length (news.map bv) hx hsl (bv_one _) (by omega) (by decide) hbase ?_
 intro v' w' ho' hg
 have ho2 : OwnB w' B v' (l ++ news) := by unfold OwnB; simpa using ho'
 obtain ⟨ap, cp, rfl, _⟩ := byts_val ho2.byts
 have e : (l ++ news).length = n := by simpa using hn
 rw [e] at ho2 ⊢
 exact h ap cp w' ⟨ho2, ho2.byts, ⟨_, _, rfl⟩, fun hM hS => hM.grown hg (fun k hk hlt => hS k hk hlt), fun g hg' => (World.ownsRow.lt hown g hg').1⟩
theorem wpList_append_b {w : World} {ops : Array Oper} {rest : List Oper} {o : Oper} {a : Act} {Q : Exit → Act → World → Prop} (hgd : o.guard = none) (s x : Operand)
  (ho : o.op = .call { callee := .builtin .append, args := #[s, x], argTypes := #[42, 42] })
  (v : Value) (l : List UInt8) (B n : Nat) (hs : a.eval s = v) (hown : OwnB w B v l)
  (sv : Value) (news : List UInt8) (hx : a.eval x = sv) (hsl : Byts w sv news) (L : List UInt8) (hL : L = l ++ news) (hn : l.length + news.length = n) (hbytes : (n : Int) ≤ 140737488355328) (hbase : B ≤ w.heap.size)
  (h : ∀ ap cp w', App w w' B n v (.slice ap n cp) L → wpList Tryz.prog ops Q rest (a.put o.dst (.slice ap n cp)) w') : wpList Tryz.prog ops Q (o :: rest) a w := by
 subst hL
 obtain ⟨i0, hi, hz0, hz1, hz2⟩ := info_parts Tryz.info5
 refine wpList_append_sl hgd s x 42 ho B 5 i0 (.int .u8 0) 1 1 Tryz.underlying42 hi hz0 hz1 hz2 rfl (by decide) v l.length (l.map bv) hs hown sv news.length (news.map bv) hx hsl (bv_one _) (by omega) (by decide) hbase ?_
 intro v' w' ho' hg
 have ho2 : OwnB w' B v' (l ++ news) := by unfold OwnB; simpa using ho'
 obtain ⟨ap, cp, rfl, _⟩ := byts_val ho2.byts
 have e : (l ++ news).length = n := by simpa using hn
 rw [e] at ho2 ⊢
 exact h ap cp w' ⟨ho2, ho2.byts, ⟨_, _, rfl⟩, fun hM hS => hM.grown hg (fun k hk hlt => hS k hk hlt), fun g hg' => (World.ownsRow.lt hown g hg').1⟩
theorem App.modF {w w' w0 : World} {B n : Nat} {v v' : Value} {l : List UInt8} (h : App w w' B n v v' l) (hM : Mod (fun _ => False) w0 w) (hB : w0.heap.size ≤ B) : Mod (fun _ => False) w0 w' :=
 h.mod hM (fun g hg hlt => by have := h.lt g hg; omega)
end Go.Proofs.YtolgeghdkoodnaaGreatDoor
set_option maxRecDepth 100000
namespace Go.Proofs.YtolgeghdkoodnaaGreatDoor
open Go.RowKit
def frL (f : Fr) (vd vr : Value) : List Value := [.int .i64 f.k, .int .u64 (f.id : Int), .int .u64 (f.a : Int), .int .u64 (f.b : Int), .int .u64 (f.c : Int), .bool f.fl, vd, vr] ++ f.t.map bv
def frC (f : Fr) (vd vr : Value) : Array Value := (frL f vd vr).toArray
def frV (f : Fr) (vd vr : Value) : Value := .agg (frC f vd vr)
def rgC (x : Nat × Nat) : List Value := [.int .u64 (x.1 : Int), .int .u64 (x.2 : Int)]
def RgV (w : World) (v : Value) (l : List (Nat × Nat)) : Prop := Sl w 2 v l.length (l.flatMap rgC)
theorem rgC_one (l : List (Nat × Nat)) : ∀ u ∈ l.flatMap rgC, u.oneCell' = true := by
 intro u hu
 obtain ⟨s, _, h⟩ := List.mem_flatMap.1 hu
 simp only [rgC, List.mem_cons, List.not_mem_nil, or_false] at h
 rcases h with rfl | rfl <;> rfl
theorem rgC_len (l : List (Nat × Nat)) : (l.flatMap rgC).length = l.length * 2 := by
 induction l with
 | nil => rfl
 | cons x m ih => rw [List.flatMap_cons, List.length_append, ih, List.length_cons]; simp [rgC]; omega
theorem rgC_at : ∀ (l : List (Nat × Nat)) (i : Nat) (s : Nat × Nat), l[i]? = some s → (l.flatMap rgC)[i * 2]? = some (.int .u64 (s.1 : Int)) ∧ (l.flatMap rgC)[i * 2 + 1]? = some (.int .u64 (s.2 : Int))
 | [], i, s, h => by simp at h
 | x :: l, 0, s, h => by simp at h; subst h; exact ⟨rfl, rfl⟩
 | x :: l, i + 1, s, h => by
  have := rgC_at l i s (by simpa using h)
  rw [List.flatMap_cons, show (i + 1) * 2 = i * 2 + 2 by omega]
  exact this
theorem rg_val {w : World} {v : Value} {l : List (Nat × Nat)} (h : RgV w v l) : ∃ a cap, v = .slice a l.length cap ∧ l.length ≤ cap ∧ cap ≤ maxLen ∧ (a = none → cap = 0) := Sl.val h
theorem rg_addr {w : World} {v : Value} {l : List (Nat × Nat)} (h : RgV w v l) (hx : l ≠ []) :
  ∃ b off cap, v = .slice (some ⟨b, off, none⟩) l.length cap ∧ l.length ≤ cap ∧ cap ≤ maxLen ∧ ∀ i s, l[i]? = some s → w.cell? ⟨b, off + i * 2, none⟩ = some (.int .u64 (s.1 : Int)) ∧ w.cell? ⟨b, off + i * 2 + 1, none⟩ = some (.int .u64 (s.2 : Int)) := by
 obtain ⟨b, off, cap, h1, h2, h3, h4⟩ := Sl.addr h (by
  cases l with
  | nil => exact absurd rfl hx
  | cons x l => simp [rgC])
 refine ⟨b, off, cap, h1, h2, h3, fun i s hs => ?_⟩
 obtain ⟨e1, e2⟩ := rgC_at l i s hs
 exact ⟨h4 _ _ e1, by rw [Nat.add_assoc]; exact h4 _ _ e2⟩
theorem RgV.kept {w w' : World} {v : Value} {l : List (Nat × Nat)} (h : RgV w v l) (hM : Mod (fun _ => False) w w') : RgV w' v l := Sl.kept h hM (fun _ _ h => h)
theorem RgV.nil (w : World) : RgV w (.slice none 0 0) [] := Sl.nil _ _
structure FrV (w : World) (f : Fr) (vd vr : Value) : Prop where
 d : Byts w vd f.d
 r : RgV w vr f.rs
 t : f.t.length = 16
 dl : (f.d.length : Int) ≤ 140737488355328
 rl : (f.rs.length : Int) ≤ 140737488355328
theorem FrV.kept {w w' : World} {f : Fr} {vd vr : Value} (h : FrV w f vd vr) (hM : Mod (fun _ => False) w w') : FrV w' f vd vr := ⟨byts_kept h.d hM, h.r.kept hM, h.t, h.dl, h.rl⟩
theorem frC_size (f : Fr) (vd vr : Value) (h : f.t.length = 16) : (frC f vd vr).size = 24 := by simp [frC, frL, h]
theorem frC_one {w : World} {f : Fr} {vd vr : Value} (h : FrV w f vd vr) : ∀ v ∈ (frC f vd vr).toList, v.oneCell' = true := by
 obtain ⟨da, dc, rfl, _⟩ := byts_val h.d
 obtain ⟨ra, rc, rfl, _⟩ := rg_val h.r
 intro v hv
 simp only [frC, frL, List.mem_append, List.mem_cons, List.not_mem_nil, or_false] at hv
 rcases hv with (rfl | rfl | rfl | rfl | rfl | rfl | rfl | rfl) | hv <;> try rfl
 exact bv_one _ _ hv
theorem frC_tok (f : Fr) (vd vr : Value) (j : Nat) (x : UInt8) (h : f.t[j]? = some x) : (frC f vd vr)[8 + j]? = some (bv x) := by
 simp only [frC, frL, List.getElem?_toArray]
 rw [List.getElem?_append_right (by simp)]
 simp [h]
theorem sizeFr (f : Fr) (vd vr : Value) (h : f.t.length = 16) : (Tryz.prog.info? 52).map (·.size) = some (frC f vd vr).size := by rw [frC_size f vd vr h]; kernel_rfl
theorem sizeTk : (Tryz.prog.info? 27).map (·.size) = some 16 := by kernel_rfl
theorem sizeRg (a b : Value) : (Tryz.prog.info? 97).map (·.size) = some (#[a, b] : Array Value).size := by show _ = some 2; kernel_rfl
structure FrB (w : World) (b : Nat) (f : Fr) (vd vr : Value) : Prop where
 blk : Blk w b (frC f vd vr) 52
 len : f.t.length = 16
theorem FrB.new (w : World) (f : Fr) (vd vr : Value) (h : f.t.length = 16) : FrB (w.alloc (.cells (frC f vd vr) 52)) w.heap.size f vd vr := ⟨Blk.new _ _ _, h⟩
theorem FrB.kept {w w' : World} {b : Nat} {f : Fr} {vd vr : Value} (h : FrB w b f vd vr) (hM : Mod (fun _ => False) w w') : FrB w' b f vd vr := ⟨hM.blk h.blk (fun h => h), h.len⟩
theorem FrB.cells {w : World} {b : Nat} {f : Fr} {vd vr : Value} (h : FrB w b f vd vr) : w.cell? ⟨b, 0, none⟩ = some (.int .i64 f.k) ∧ w.cell? ⟨b, 1, none⟩ = some (.int .u64 (f.id : Int)) ∧ w.cell? ⟨b, 2, none⟩ = some (.int .u64 (f.a : Int)) ∧ w.cell? ⟨b, 3, none⟩ = some (.int .u64 (f.b : Int)) ∧ w.cell? ⟨b, 4, none⟩ = some (.int .u64 (f.c : Int)) ∧ w.cell? ⟨b, 5, none⟩ = some (.bool f.fl) ∧ w.cell? ⟨b, 6, none⟩ = some vd ∧ w.cell? ⟨b, 7, none⟩ = some vr :=
 ⟨h.blk.cellAt 0 rfl, h.blk.cellAt 1 rfl, h.blk.cellAt 2 rfl, h.blk.cellAt 3 rfl, h.blk.cellAt 4 rfl, h.blk.cellAt 5 rfl, h.blk.cellAt 6 rfl, h.blk.cellAt 7 rfl⟩
theorem FrB.tok {w : World} {b : Nat} {f : Fr} {vd vr : Value} (h : FrB w b f vd vr) : w.rangeAt b 8 (f.t.map bv) := h.blk.range 8 _ (fun j v hv => by
 rw [List.getElem?_map] at hv
 obtain ⟨x, hx, rfl⟩ := Option.map_eq_some_iff.1 hv
 exact frC_tok f vd vr j x hx)
theorem FrB.loadTok {w : World} {b : Nat} {f : Fr} {vd vr : Value} (h : FrB w b f vd vr) : (Instr.loadAt 27 (.pointer (some ⟨b, 8, none⟩))).run Tryz.prog w = .ok (.agg (f.t.map bv).toArray) w :=
 run_loadAt_mid w b 8 27 (f.t.map bv) _ h.tok Tryz.underlying27 rfl (by rw [sizeTk, List.length_map, h.len])
theorem FrB.byts {w : World} {b : Nat} {f : Fr} {vd vr : Value} (h : FrB w b f vd vr) : Byts w (.slice (some ⟨b, 8, none⟩) 16 16) f.t :=
 ⟨by simp, some ⟨b, 8, none⟩, 16, by rw [h.len], by rw [h.len]; omega, by decide, fun e => by simp at e, fun j u hu => ⟨b, 8, rfl, h.tok j u hu⟩⟩
theorem wpList_load_v {P : Program} {ops : Array Oper} {rest : List Oper} {op : Oper} {a : Act} {w : World} {Q : Exit → Act → World → Prop} (ty : TypeId) (x : Operand) (ho : op.op = .load ty x) (hw : Region.wanted op (yielded ops a.tmps) = true)
  (p v : Value) (hx : a.eval x = p) (hl : (Instr.loadAt ty p).run P w = .ok v w) (k : wpList P ops Q rest (a.put op.dst v) w) : wpList P ops Q (op :: rest) a w := by
 refine BigFrame.wpList_want hw fun K hK => ?_
 unfold Oper.wp execOp
 simp only [ho, hx, Sem.run_bind, hl, Result.andThen_ok, Sem.run_pure]
 exact hK _ _ k
theorem wpList_build_c {P : Program} {ops : Array Oper} {rest : List Oper} {op : Oper} {a : Act} {w : World} {Q : Exit → Act → World → Prop} (hgd : op.guard = none) (t : TypeId) (pl : List (Nat × Operand)) (ho : op.op = .build t pl.toArray)
  (vals : List (Nat × Value)) (hv : pl.map (fun x => (x.1, a.eval x.2)) = vals) (cells : Array Value) (hb : P.built t vals = some cells) (k : wpList P ops Q rest (a.put op.dst (.agg cells)) w) : wpList P ops Q (op :: rest) a w := by
 subst hv
 refine wpList_plain hgd fun K hK => ?_
 have e : (pl.toArray.map fun (i, x) => (i, a.eval x)).toList = pl.map (fun x => (x.1, a.eval x.2)) := by simp
 refine wp_build t pl.toArray ho (by rw [e, hb]; rfl) ?_
 rw [e, hb]
 exact hK _ _ k
theorem list16 {α : Type} (t : List α) (h : t.length = 16) : ∃ a b c d e f g h' i j k l m n o p, t = [a, b, c, d, e, f, g, h', i, j, k, l, m, n, o, p] := by
 match t, h with
 | [a, b, c, d, e, f, g, h', i, j, k, l, m, n, o, p], _ => exact ⟨a, b, c, d, e, f, g, h', i, j, k, l, m, n, o, p, rfl⟩
end Go.Proofs.YtolgeghdkoodnaaGreatDoor
