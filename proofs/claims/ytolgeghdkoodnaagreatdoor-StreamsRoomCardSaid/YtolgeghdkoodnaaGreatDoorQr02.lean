/- Parts of the proof: RfD. -/
import Derived.Test.YtolgeghdkoodnaaGreatDoorQr01
set_option maxRecDepth 100000
namespace Go.Proofs.YtolgeghdkoodnaaGreatDoor
open Go.RowKit
def Fr.setId (f : Fr) (x : Nat) : Fr := ⟨f.k, x, f.a, f.b, f.c, f.fl, f.d, f.rs, f.t⟩
def Fr.setA (f : Fr) (x : Nat) : Fr := ⟨f.k, f.id, x, f.b, f.c, f.fl, f.d, f.rs, f.t⟩
def Fr.setB (f : Fr) (x : Nat) : Fr := ⟨f.k, f.id, f.a, x, f.c, f.fl, f.d, f.rs, f.t⟩
def Fr.setC (f : Fr) (x : Nat) : Fr := ⟨f.k, f.id, f.a, f.b, x, f.fl, f.d, f.rs, f.t⟩
def Fr.setF (f : Fr) (x : Bool) : Fr := ⟨f.k, f.id, f.a, f.b, f.c, x, f.d, f.rs, f.t⟩
def Fr.setD (f : Fr) (x : List UInt8) : Fr := ⟨f.k, f.id, f.a, f.b, f.c, f.fl, x, f.rs, f.t⟩
def Fr.setR (f : Fr) (x : List (Nat × Nat)) : Fr := ⟨f.k, f.id, f.a, f.b, f.c, f.fl, f.d, x, f.t⟩
def Fr.setT (f : Fr) (x : List UInt8) : Fr := ⟨f.k, f.id, f.a, f.b, f.c, f.fl, f.d, f.rs, x⟩
theorem frset_id (f : Fr) (vd vr : Value) (x : Nat) : (frC f vd vr).setIfInBounds 1 (.int .u64 (x : Int)) = frC (f.setId x) vd vr := by apply Array.toList_inj.1; simp [frC, frL, Fr.setId]
theorem frset_a (f : Fr) (vd vr : Value) (x : Nat) : (frC f vd vr).setIfInBounds 2 (.int .u64 (x : Int)) = frC (f.setA x) vd vr := by apply Array.toList_inj.1; simp [frC, frL, Fr.setA]
theorem frset_b (f : Fr) (vd vr : Value) (x : Nat) : (frC f vd vr).setIfInBounds 3 (.int .u64 (x : Int)) = frC (f.setB x) vd vr := by apply Array.toList_inj.1; simp [frC, frL, Fr.setB]
theorem frset_c (f : Fr) (vd vr : Value) (x : Nat) : (frC f vd vr).setIfInBounds 4 (.int .u64 (x : Int)) = frC (f.setC x) vd vr := by apply Array.toList_inj.1; simp [frC, frL, Fr.setC]
theorem frset_f (f : Fr) (vd vr : Value) (x : Bool) : (frC f vd vr).setIfInBounds 5 (.bool x) = frC (f.setF x) vd vr := by apply Array.toList_inj.1; simp [frC, frL, Fr.setF]
theorem frset_d (f : Fr) (vd vr v : Value) (x : List UInt8) : (frC f vd vr).setIfInBounds 6 v = frC (f.setD x) v vr := by apply Array.toList_inj.1; simp [frC, frL, Fr.setD]
theorem frset_r (f : Fr) (vd vr v : Value) (x : List (Nat × Nat)) : (frC f vd vr).setIfInBounds 7 v = frC (f.setR x) vd v := by apply Array.toList_inj.1; simp [frC, frL, Fr.setR]
theorem top_parts {f : Fr} (h : topB f = true) : f.id ≤ topN ∧ f.a ≤ topN ∧ f.b ≤ topN ∧ f.c ≤ topN := by
 simp only [topB, Bool.and_eq_true, decide_eq_true_eq] at h
 exact ⟨h.1.1.1, h.1.1.2, h.1.2, h.2⟩
theorem refsame_c {w : World} {f g : Fr} {vd vr ud ur : Value} {C D : Array Value} (hC : C = frC f vd vr) (hD : D = frC g ud ur) (hf : FrV w f vd vr) (hg : FrV w g ud ur) (hn : (f.rs.length : Int) ≤ 100000) (hm : (g.rs.length : Int) ≤ 100000) :
  Calls Tryz.prog 73 #[.agg C, .agg D] w fun e w' => e = .returned (.bool (sameF f g)) ∧ Mod (fun _ => False) w w' := by
 subst hC hD
 exact refsame_any hf hg hn hm
def whatL (k : Int) : List UInt8 :=
 if k = 0 ∨ k = 16 ∨ k = 20 then [97]
 else if k = 1 ∨ k = 30 then []
 else if k = 2 then [98, 114]
 else if k = 4 then [105, 99, 97]
 else if k = 5 then [105, 99]
 else if k = 6 then [97, 100]
 else if k = 7 ∨ k = 26 ∨ k = 27 then [100]
 else if k = 8 then [105, 97, 102, 100]
 else if k = 17 ∨ k = 21 then [105, 97]
 else if k = 18 ∨ k = 22 then [97, 102]
 else if k = 24 then [105, 97, 100, 116]
 else if k = 25 then [105]
 else if k = 28 then [99, 97, 102, 100]
 else [63]
def strV (l : List UInt8) : Value := .string ⟨l.toArray⟩
set_option maxHeartbeats 2000000 in
set_option maxRecDepth 10000 in
theorem what_any (w : World) (k : Int) : Calls Tryz.prog 40 #[.int .i64 k] w fun e w' => w = w' ∧ e = .returned (strV (whatL k)) := by
 have HK : Hid (∀ e : Value, e = strV (whatL k) → Ending.returned e = .returned (strV (whatL k))) := fun e h => by rw [h]
 go_enter Tryz.func40, Tryz.ntmps40
 go_wp2
 all_goals go_ret
 all_goals refine ⟨rfl, HK.out _ ?_⟩
 all_goals (clear HK; unfold whatL strV; simp_all)
def stepF (f g : Fr) (c : UInt8) : Fr :=
 if c = 105 then g.setId f.id
 else if c = 97 then g.setA f.a
 else if c = 98 then g.setB f.b
 else if c = 99 then g.setC f.c
 else if c = 102 then g.setF f.fl
 else if c = 100 then g.setD f.d
 else if c = 114 then g.setR f.rs
 else if c = 116 then g.setT f.t
 else g
def onlyS (f : Fr) (l : List UInt8) : Fr := l.foldl (stepF f) (Fr.ofKind f.k false)
theorem new3 (w : World) (o p : Obj) (cs : Array Value) (t : TypeId) : Blk (((w.alloc o).alloc p).alloc (.cells cs t)) (w.heap.size + 2) cs t := by
 have h := new2 (w.alloc o) p cs t
 rw [show (w.alloc o).heap.size = w.heap.size + 1 by simp] at h
 exact h
theorem wpList_store_off {P : Program} {ops : Array Oper} {rest : List Oper} {op : Oper} {a : Act} {w : World} {Q : Exit → Act → World → Prop} (hgd : op.guard = none) (ty : TypeId) (x y : Operand) (ho : op.op = .store ty x y)
  (b o : Nat) (hx : a.eval x = .pointer (some ⟨b, o, none⟩)) (C cells : Array Value) (hy : a.eval y = .agg cells) (T : TypeId) (h : Blk w b C T) (hi : (P.info? ty).map (·.size) = some cells.size) (hl : o + cells.size ≤ C.size) (h1 : ∀ v ∈ cells.toList, v.oneCell' = true)
  (D : Array Value) (hD : D.toList = C.toList.take o ++ cells.toList ++ C.toList.drop (o + cells.size))
  (k : ∀ w', Blk w' b D T → Mod (fun k => k = b) w w' → wpList P ops Q rest (a.put op.dst undef) w') : wpList P ops Q (op :: rest) a w := by
 obtain ⟨w', C', hr, hB, hs, he, hM⟩ := blk_store (P := P) o ty h hi hl h1
 have e : C' = D := Array.toList_inj.1 (he.trans hD.symm)
 subst e
 refine wpList_plain hgd fun K hK => ?_
 unfold Oper.wp execOp
 simp only [ho, hx, hy, Instr.storeAt, Instr.sureAddr, Sem.run_bind, Sem.run_pure, Result.andThen_ok, hr]
 exact hK _ _ (k w' hB hM)
theorem setT_cells (g : Fr) (ud ur : Value) (t : List UInt8) (h : g.t.length = 16) (ht : t.length = 16) : (frC (g.setT t) ud ur).toList = (frC g ud ur).toList.take 8 ++ ((t.map bv).toArray).toList ++ (frC g ud ur).toList.drop (8 + ((t.map bv).toArray).size) := by
 have e1 : (frC g ud ur).toList.drop (8 + ((t.map bv).toArray).size) = [] := List.drop_of_length_le (by simp [frC, frL, h, ht])
 rw [e1, List.append_nil]
 rfl
structure OnS (w0 w : World) (f : Fr) (vd vr : Value) (g : Fr) (ud ur : Value) : Prop where
 a : FrB w w0.heap.size f vd vr
 r : Blk w (w0.heap.size + 1) frZ 52
 b : FrB w (w0.heap.size + 2) g ud ur
 fv : FrV w0 f vd vr
 gv : FrV w0 g ud ur
 m : Mod (fun _ => False) w0 w
theorem OnS.next {w0 w w' : World} {f g g' : Fr} {vd vr ud ur ud' ur' : Value} (h : OnS w0 w f vd vr g ud ur) (hM : Mod (fun k => k = w0.heap.size + 2) w w') (hB : FrB w' (w0.heap.size + 2) g' ud' ur') (hv : FrV w0 g' ud' ur') : OnS w0 w' f vd vr g' ud' ur' :=
 ⟨⟨hM.blk h.a.blk (by omega), h.a.len⟩, hM.blk h.r (by omega), hB, h.fv, hv, h.m.trans' hM (fun i hi e => by omega)⟩
theorem OnS.st {w0 w : World} {f g g' : Fr} {vd vr ud ur ud' ur' : Value} (h : OnS w0 w f vd vr g ud ur) (i : Nat) (v : Value) (hC : (frC g ud ur).setIfInBounds i v = frC g' ud' ur') (hv : FrV w0 g' ud' ur') : OnS w0 (w.setCell ⟨w0.heap.size + 2, i, none⟩ v) f vd vr g' ud' ur' :=
 h.next ((Mod.refl (fun k => k = w0.heap.size + 2) w).setCell (p := ⟨w0.heap.size + 2, i, none⟩) (fun _ => rfl) v) ⟨hC ▸ h.b.blk.set i v, hv.t⟩ hv
theorem OnS.made {w w1 : World} {f : Fr} {vd vr : Value} (hf : FrV w f vd vr) (hB : Blk w1 (w.heap.size + 2) (frC (Fr.ofKind f.k false) (.slice none 0 0) (.slice none 0 0)) 52)
  (hM : Mod (fun k => k = w.heap.size + 2) (((w.alloc (.cells (frC f vd vr) 52)).alloc (.cells frZ 52)).alloc (.cells frZ 52)) w1) : OnS w w1 f vd vr (Fr.ofKind f.k false) (.slice none 0 0) (.slice none 0 0) :=
 ⟨⟨hM.blk ((FrB.new w f vd vr hf.t).kept (((Mod.refl _ _).alloc _).alloc _)).blk (by omega), hf.t⟩, hM.blk ((new2 _ _ _ _).alloc _) (by omega), ⟨hB, rfl⟩, hf, ⟨Sl.nil _ _, Sl.nil _ _, rfl, (by show ((0 : Nat) : Int) ≤ 140737488355328; decide), (by show ((0 : Nat) : Int) ≤ 140737488355328; decide)⟩, (((Mod.refl (fun _ => False) w).alloc _).alloc _).alloc _ |>.trans' hM (fun i hi e => by omega)⟩
theorem built_k (k : Int) : Tryz.prog.built 52 [(0, .int .i64 k)] = some (frC (Fr.ofKind k false) (.slice none 0 0) (.slice none 0 0)) := by kernel_rfl
theorem bv_tok (t : List UInt8) : ∀ v ∈ ((t.map bv).toArray).toList, v.oneCell' = true := fun v hv => bv_one t v (by simpa using hv)
set_option maxHeartbeats 16000000 in
set_option maxRecDepth 10000 in
theorem only_any {w : World} {f : Fr} {vd vr : Value} (hf : FrV w f vd vr) (S : List UInt8) (hl : (S.length : Int) ≤ 100) :
  Calls Tryz.prog 74 #[frV f vd vr, strV S] w fun e w' => ∃ ud ur, e = .returned (frV (onlyS f S) ud ur) ∧ FrV w' (onlyS f S) ud ur ∧ Mod (fun _ => False) w w' := by
 obtain ⟨R, hR⟩ : ∃ R, R = onlyS f S := ⟨_, rfl⟩
 rw [← hR]
 have HRR := Lib.hid hR
 clear hR
 have HF := Lib.hid hf
 obtain ⟨da, dc, rfl, _⟩ := byts_val hf.d
 obtain ⟨ra, rc, rfl, _⟩ := rg_val hf.r
 obtain ⟨nd, hnd⟩ : ∃ n, f.d.length = n := ⟨_, rfl⟩
 obtain ⟨nr, hnr⟩ : ∃ n, f.rs.length = n := ⟨_, rfl⟩
 rw [hnd, hnr] at HF ⊢
 obtain ⟨n, hn⟩ : ∃ n, S.length = n := ⟨_, rfl⟩
 have HN := Lib.hid hn
 rw [hn] at hl
 have hsz : (ByteArray.mk S.toArray).size = n := by rw [← hn]; simp [ByteArray.size]
 have HIX : Hid (∀ (i : Nat) (c : UInt8) (X : World), S[i]? = some c → (Instr.index 9 (.string ⟨S.toArray⟩) (.int .i64 (i : Int))).run Tryz.prog X = .ok (.int .u8 (c.toNat : Int)) X) := by
  intro i c X h
  obtain ⟨hi, e⟩ := List.getElem?_eq_some_iff.1 h
  have hs : (ByteArray.mk S.toArray).size = S.length := by simp [ByteArray.size]
  rw [run_index_string X 9 ⟨S.toArray⟩ .i64 (i : Int) Tryz.underlying9, dif_pos ⟨by omega, by rw [hs]; omega⟩]
  have : (ByteArray.mk S.toArray)[(i : Int).toNat]'(by rw [hs]; omega) = c := by
   show S.toArray[(i : Int).toNat]'_ = c
   simpa using e
  rw [this]
 obtain ⟨k, hk⟩ : ∃ k, f.k = k := ⟨_, rfl⟩
 have e0 : (frC f (.slice da nd dc) (.slice ra nr rc))[0]? = some (.int .i64 k) := by rw [← hk]; rfl
 have HK := Lib.hid hk
 have hT := HF.out.t
 have HT := Lib.hid hT
 have HM0 : Hid (∀ w1, Blk w1 (w.heap.size + 2) (frC (Fr.ofKind k false) (.slice none 0 0) (.slice none 0 0)) 52 → Mod (fun k => k = w.heap.size + 2) (((w.alloc (.cells (frC f (.slice da nd dc) (.slice ra nr rc)) 52)).alloc (.cells frZ 52)).alloc (.cells frZ 52)) w1 → OnS w w1 f (.slice da nd dc) (.slice ra nr rc) (Fr.ofKind f.k false) (.slice none 0 0) (.slice none 0 0)) := fun w1 h1 h2 => OnS.made HF.out (by rw [hk]; exact h1) h2
 unfold frV strV
 clear hf hnd hnr hn hk hT
 generalize frC f (.slice da nd dc) (.slice ra nr rc) = C at *
 generalize (ByteArray.mk S.toArray) = s1 at *
 have HKZ : Hid (∀ v ∈ (frC (Fr.ofKind k false) (.slice none 0 0) (.slice none 0 0)).toList, v.oneCell' = true) := frC_one (w := w) (f := Fr.ofKind k false) ⟨Sl.nil _ _, Sl.nil _ _, rfl, (by show ((0 : Nat) : Int) ≤ 140737488355328; decide), (by show ((0 : Nat) : Int) ≤ 140737488355328; decide)⟩
 go_enter Tryz.func74, Tryz.ntmps74
 go_wp2_with (first
  | ((with_reducible refine wpList_build_c ?_ 52 [(0, .tmp 8)] ?_ [(0, .int .i64 k)] ?_ _ (built_k k) ?_); (· exact rfl); (· exact rfl); (· exact rfl))
  | ((with_reducible refine wpList_store_blk ?_ 52 (.tmp 5) (.tmp 9) ?_ (w.heap.size + 2) ?_ frZ (frC (Fr.ofKind k false) (.slice none 0 0) (.slice none 0 0)) ?_ 52 (new3 _ _ _ _ _) (sizeFr _ _ _ rfl) rfl HKZ.out ?_); (· exact rfl); (· exact rfl); (· exact rfl); (· exact rfl); intro w1 hB1 hM1; have HS1 := Lib.hid (HM0.out _ hB1 hM1); clear hB1 hM1)
  | fail)
 clear HM0 HKZ e0
 go_loopw [6] (fun s6 wr => ∃ (i : Nat) (g : Fr) (ud ur : Value), s6 = .int .i64 i ∧ i ≤ n ∧ Hid (OnS w wr f (.slice da nd dc) (.slice ra nr rc) g ud ur) ∧ Hid ((S.take i).foldl (stepF f) (Fr.ofKind f.k false) = g)) (fun s6 _ => n - (intOf s6).toNat)
 case atStart => exact ⟨0, _, _, _, rfl, Nat.zero_le _, HS1, rfl⟩
 case round =>
  clear HS1
  obtain ⟨i, g, ud, ur, rfl, hi, HS, HG⟩ := hrel
  by_cases hin : (i : Int) < n
  ·have hil : i < S.length := by have := HN.out; omega
   have hc : S[i]? = some S[i] := List.getElem?_eq_getElem hil
   generalize S[i] = c at hc
   have hix := fun X => HIX.out i c X hc
   have HC := Lib.hid hc
   have HZ : Hid (∀ n : Nat, n < 256 → (c.toNat : Int) = (n : Int) → c = UInt8.ofNat n) := fun n hn h => UInt8.toNat_inj.1 (by rw [UInt8.toNat_ofNat_of_lt' (by show _ < 256; omega)]; omega)
   have HST : Hid (∀ g', stepF f g c = g' → (S.take (i + 1)).foldl (stepF f) (Fr.ofKind f.k false) = g') := fun g' h => by rw [take_snoc S i c HC.out, List.foldl_append, HG.out]; exact h
   have HSN : Hid (∀ n : Nat, n < 256 → (c.toNat : Int) ≠ (n : Int) → c ≠ UInt8.ofNat n) := fun n hn h e => h (by rw [e, UInt8.toNat_ofNat_of_lt' (by show _ < 256; omega)])
   have hz0 : (0 : Int) ≤ (c.toNat : Int) := by omega
   clear hc hil
   generalize (c.toNat : Int) = z at *
   have hcs := HS.out.a.cells
   have hgs := HS.out.b.cells
   obtain ⟨a0, a1, a2, a3, a4, a5, a6, a7⟩ := hcs
   obtain ⟨g0, g1, g2, g3, g4, g5, g6, g7⟩ := hgs
   clear a0 g0
   by_cases h105 : z = 105
   ·have hce : c = 105 := HZ.out 105 (by decide) h105
    have HSE : Hid ((S.take (i + 1)).foldl (stepF f) (Fr.ofKind f.k false) = g.setId f.id) := HST.out _ (by unfold stepF; rw [if_pos hce])
    subst h105
    clear hce HST HSN HZ
    have hf := HS.out.b.blk.free 1
    have HS2 : Hid (OnS w (wr.setCell ⟨w.heap.size + 2, 1, none⟩ (.int .u64 (f.id : Int))) f (.slice da nd dc) (.slice ra nr rc) (g.setId f.id) ud ur) := HS.out.st 1 (.int .u64 (f.id : Int)) (frset_id g ud ur f.id) ⟨HS.out.gv.d, HS.out.gv.r, HS.out.gv.t, HS.out.gv.dl, HS.out.gv.rl⟩
    go_wp2_with fail
    go_roundw
    case rel => exact ⟨i + 1, _, _, _, by go_num, by omega, HS2, HSE⟩
    case measure => simp [intOf]; omega
   have HN105 : Hid (c ≠ 105) := HSN.out 105 (by decide) h105
   have b105 : (z == 105) = false := by simpa using h105
   clear h105
   by_cases h97 : z = 97
   ·have hce : c = 97 := HZ.out 97 (by decide) h97
    have HSE : Hid ((S.take (i + 1)).foldl (stepF f) (Fr.ofKind f.k false) = g.setA f.a) := HST.out _ (by unfold stepF; rw [if_neg (show c ≠ 105 from HN105.out), if_pos hce])
    subst h97
    clear hce HST HSN HZ
    have hf := HS.out.b.blk.free 2
    have HS2 : Hid (OnS w (wr.setCell ⟨w.heap.size + 2, 2, none⟩ (.int .u64 (f.a : Int))) f (.slice da nd dc) (.slice ra nr rc) (g.setA f.a) ud ur) := HS.out.st 2 (.int .u64 (f.a : Int)) (frset_a g ud ur f.a) ⟨HS.out.gv.d, HS.out.gv.r, HS.out.gv.t, HS.out.gv.dl, HS.out.gv.rl⟩
    go_wp2_with fail
    go_roundw
    case rel => exact ⟨i + 1, _, _, _, by go_num, by omega, HS2, HSE⟩
    case measure => simp [intOf]; omega
   have HN97 : Hid (c ≠ 97) := HSN.out 97 (by decide) h97
   have b97 : (z == 97) = false := by simpa using h97
   clear h97
   by_cases h98 : z = 98
   ·have hce : c = 98 := HZ.out 98 (by decide) h98
    have HSE : Hid ((S.take (i + 1)).foldl (stepF f) (Fr.ofKind f.k false) = g.setB f.b) := HST.out _ (by unfold stepF; rw [if_neg (show c ≠ 105 from HN105.out), if_neg (show c ≠ 97 from HN97.out), if_pos hce])
    subst h98
    clear hce HST HSN HZ
    have hf := HS.out.b.blk.free 3
    have HS2 : Hid (OnS w (wr.setCell ⟨w.heap.size + 2, 3, none⟩ (.int .u64 (f.b : Int))) f (.slice da nd dc) (.slice ra nr rc) (g.setB f.b) ud ur) := HS.out.st 3 (.int .u64 (f.b : Int)) (frset_b g ud ur f.b) ⟨HS.out.gv.d, HS.out.gv.r, HS.out.gv.t, HS.out.gv.dl, HS.out.gv.rl⟩
    go_wp2_with fail
    go_roundw
    case rel => exact ⟨i + 1, _, _, _, by go_num, by omega, HS2, HSE⟩
    case measure => simp [intOf]; omega
   have HN98 : Hid (c ≠ 98) := HSN.out 98 (by decide) h98
   have b98 : (z == 98) = false := by simpa using h98
   clear h98
   by_cases h99 : z = 99
   ·have hce : c = 99 := HZ.out 99 (by decide) h99
    have HSE : Hid ((S.take (i + 1)).foldl (stepF f) (Fr.ofKind f.k false) = g.setC f.c) := HST.out _ (by unfold stepF; rw [if_neg (show c ≠ 105 from HN105.out), if_neg (show c ≠ 97 from HN97.out), if_neg (show c ≠ 98 from HN98.out), if_pos hce])
    subst h99
    clear hce HST HSN HZ
    have hf := HS.out.b.blk.free 4
    have HS2 : Hid (OnS w (wr.setCell ⟨w.heap.size + 2, 4, none⟩ (.int .u64 (f.c : Int))) f (.slice da nd dc) (.slice ra nr rc) (g.setC f.c) ud ur) := HS.out.st 4 (.int .u64 (f.c : Int)) (frset_c g ud ur f.c) ⟨HS.out.gv.d, HS.out.gv.r, HS.out.gv.t, HS.out.gv.dl, HS.out.gv.rl⟩
    go_wp2_with fail
    go_roundw
    case rel => exact ⟨i + 1, _, _, _, by go_num, by omega, HS2, HSE⟩
    case measure => simp [intOf]; omega
   have HN99 : Hid (c ≠ 99) := HSN.out 99 (by decide) h99
   have b99 : (z == 99) = false := by simpa using h99
   clear h99
   by_cases h102 : z = 102
   ·have hce : c = 102 := HZ.out 102 (by decide) h102
    have HSE : Hid ((S.take (i + 1)).foldl (stepF f) (Fr.ofKind f.k false) = g.setF f.fl) := HST.out _ (by unfold stepF; rw [if_neg (show c ≠ 105 from HN105.out), if_neg (show c ≠ 97 from HN97.out), if_neg (show c ≠ 98 from HN98.out), if_neg (show c ≠ 99 from HN99.out), if_pos hce])
    subst h102
    clear hce HST HSN HZ
    have hf := HS.out.b.blk.free 5
    have HS2 : Hid (OnS w (wr.setCell ⟨w.heap.size + 2, 5, none⟩ (.bool f.fl)) f (.slice da nd dc) (.slice ra nr rc) (g.setF f.fl) ud ur) := HS.out.st 5 (.bool f.fl) (frset_f g ud ur f.fl) ⟨HS.out.gv.d, HS.out.gv.r, HS.out.gv.t, HS.out.gv.dl, HS.out.gv.rl⟩
    go_wp2_with fail
    go_roundw
    case rel => exact ⟨i + 1, _, _, _, by go_num, by omega, HS2, HSE⟩
    case measure => simp [intOf]; omega
   have HN102 : Hid (c ≠ 102) := HSN.out 102 (by decide) h102
   have b102 : (z == 102) = false := by simpa using h102
   clear h102
   by_cases h100 : z = 100
   ·have hce : c = 100 := HZ.out 100 (by decide) h100
    have HSE : Hid ((S.take (i + 1)).foldl (stepF f) (Fr.ofKind f.k false) = g.setD f.d) := HST.out _ (by unfold stepF; rw [if_neg (show c ≠ 105 from HN105.out), if_neg (show c ≠ 97 from HN97.out), if_neg (show c ≠ 98 from HN98.out), if_neg (show c ≠ 99 from HN99.out), if_neg (show c ≠ 102 from HN102.out), if_pos hce])
    subst h100
    clear hce HST HSN HZ
    have hf := HS.out.b.blk.free 6
    have HS2 : Hid (OnS w (wr.setCell ⟨w.heap.size + 2, 6, none⟩ (.slice da nd dc)) f (.slice da nd dc) (.slice ra nr rc) (g.setD f.d) (.slice da nd dc) ur) := HS.out.st 6 (.slice da nd dc) (frset_d g ud ur (.slice da nd dc) f.d) ⟨HS.out.fv.d, HS.out.gv.r, HS.out.gv.t, HS.out.fv.dl, HS.out.gv.rl⟩
    go_wp2_with fail
    go_roundw
    case rel => exact ⟨i + 1, _, _, _, by go_num, by omega, HS2, HSE⟩
    case measure => simp [intOf]; omega
   have HN100 : Hid (c ≠ 100) := HSN.out 100 (by decide) h100
   have b100 : (z == 100) = false := by simpa using h100
   clear h100
   by_cases h114 : z = 114
   ·have hce : c = 114 := HZ.out 114 (by decide) h114
    have HSE : Hid ((S.take (i + 1)).foldl (stepF f) (Fr.ofKind f.k false) = g.setR f.rs) := HST.out _ (by unfold stepF; rw [if_neg (show c ≠ 105 from HN105.out), if_neg (show c ≠ 97 from HN97.out), if_neg (show c ≠ 98 from HN98.out), if_neg (show c ≠ 99 from HN99.out), if_neg (show c ≠ 102 from HN102.out), if_neg (show c ≠ 100 from HN100.out), if_pos hce])
    subst h114
    clear hce HST HSN HZ
    have hf := HS.out.b.blk.free 7
    have HS2 : Hid (OnS w (wr.setCell ⟨w.heap.size + 2, 7, none⟩ (.slice ra nr rc)) f (.slice da nd dc) (.slice ra nr rc) (g.setR f.rs) ud (.slice ra nr rc)) := HS.out.st 7 (.slice ra nr rc) (frset_r g ud ur (.slice ra nr rc) f.rs) ⟨HS.out.gv.d, HS.out.fv.r, HS.out.gv.t, HS.out.gv.dl, HS.out.fv.rl⟩
    go_wp2_with fail
    go_roundw
    case rel => exact ⟨i + 1, _, _, _, by go_num, by omega, HS2, HSE⟩
    case measure => simp [intOf]; omega
   have HN114 : Hid (c ≠ 114) := HSN.out 114 (by decide) h114
   have b114 : (z == 114) = false := by simpa using h114
   clear h114
   by_cases h116 : z = 116
   ·have hce : c = 116 := HZ.out 116 (by decide) h116
    have HSE : Hid ((S.take (i + 1)).foldl (stepF f) (Fr.ofKind f.k false) = g.setT f.t) := HST.out _ (by unfold stepF; rw [if_neg (show c ≠ 105 from HN105.out), if_neg (show c ≠ 97 from HN97.out), if_neg (show c ≠ 98 from HN98.out), if_neg (show c ≠ 99 from HN99.out), if_neg (show c ≠ 102 from HN102.out), if_neg (show c ≠ 100 from HN100.out), if_neg (show c ≠ 114 from HN114.out), if_pos hce])
    subst h116
    clear hce HST HSN HZ
    have HLT := Lib.hid HS.out.a.loadTok
    have HSZ : Hid (((f.t.map bv).toArray).size = 16) := by show _ = _; simp [HT.out]
    have HD : Hid ((frC (g.setT f.t) ud ur).toList = (frC g ud ur).toList.take 8 ++ ((f.t.map bv).toArray).toList ++ (frC g ud ur).toList.drop (8 + ((f.t.map bv).toArray).size)) := by
     exact setT_cells g ud ur f.t HS.out.b.len HT.out
    have HC24 : Hid (8 + ((f.t.map bv).toArray).size ≤ (frC g ud ur).size) := by show _ ≤ _; rw [HSZ.out, frC_size g ud ur HS.out.b.len]; decide
    have HI16 : Hid ((Tryz.prog.info? 27).map (·.size) = some ((f.t.map bv).toArray).size) := by show _ = _; rw [HSZ.out]; exact sizeTk
    have HONE := Lib.hid (bv_tok f.t)
    generalize (f.t.map bv).toArray = TF at *
    go_wp2_with (first
     | ((with_reducible refine wpList_load_v 27 (.tmp 56) ?_ ?_ (.pointer (some ⟨w.heap.size, 8, none⟩)) (.agg TF) ?_ HLT.out ?_); (· exact rfl); (· exact rfl); (· exact rfl))
     | ((with_reducible refine wpList_store_off ?_ 27 (.tmp 58) (.tmp 57) ?_ (w.heap.size + 2) 8 ?_ (frC g ud ur) TF ?_ 52 HS.out.b.blk HI16.out HC24.out HONE.out (frC (g.setT f.t) ud ur) HD.out ?_); (· exact rfl); (· exact rfl); (· exact rfl); (· exact rfl); intro w2 hB2 hM2; have HS2 := Lib.hid (HS.out.next hM2 (g' := g.setT f.t) ⟨hB2, HT.out⟩ ⟨HS.out.gv.d, HS.out.gv.r, HT.out, HS.out.gv.dl, HS.out.gv.rl⟩); clear hB2 hM2)
     | fail)
    go_roundw
    case rel => exact ⟨i + 1, _, _, _, by go_num, by omega, HS2, HSE⟩
    case measure => simp [intOf]; omega
   have HN116 : Hid (c ≠ 116) := HSN.out 116 (by decide) h116
   have b116 : (z == 116) = false := by simpa using h116
   clear h116
   have HSE : Hid ((S.take (i + 1)).foldl (stepF f) (Fr.ofKind f.k false) = g) := HST.out _ (by unfold stepF; rw [if_neg (show c ≠ 105 from HN105.out), if_neg (show c ≠ 97 from HN97.out), if_neg (show c ≠ 98 from HN98.out), if_neg (show c ≠ 99 from HN99.out), if_neg (show c ≠ 102 from HN102.out), if_neg (show c ≠ 100 from HN100.out), if_neg (show c ≠ 114 from HN114.out), if_neg (show c ≠ 116 from HN116.out)])
   clear HST HSN HZ
   go_wp2_with fail
   go_roundw
   case rel => exact ⟨i + 1, _, _, _, by go_num, by omega, HS, HSE⟩
   case measure => simp [intOf]; omega
  ·have hin' : i = n := by omega
   have hge : R = g := by
    have := HG.out
    rw [List.take_of_length_le (by have := HN.out; omega)] at this
    rw [HRR.out]
    exact this
   subst hge
   have HR := Lib.hid HS.out.r
   have HGB := Lib.hid HS.out.b.blk
   have HSI : Hid ((Tryz.prog.info? 52).map (·.size) = some (frC R ud ur).size) := sizeFr R ud ur HS.out.b.len
   have HSI2 : Hid (frZ.size = (frC R ud ur).size) := by show _ = _; rw [frC_size R ud ur HS.out.b.len]; rfl
   have HONE := Lib.hid (frC_one HS.out.gv)
   have HF0 := Lib.hid HS.out.gv
   have HMR := Lib.hid HS.out.m
   obtain ⟨D, hD⟩ : ∃ D, D = frC R ud ur := ⟨_, rfl⟩
   rw [← hD] at HGB HSI HSI2 HONE
   have HDD := Lib.hid hD
   clear hD HS HG
   go_wp2_with (first
    | ((with_reducible refine wpList_load_blk ?_ 52 (.tmp 5) ?_ (w.heap.size + 2) ?_ D 52 _ HGB.out Tryz.underlying52 rfl HSI.out ?_); (· exact rfl); (· exact rfl); (· exact rfl))
    | ((with_reducible refine wpList_store_blk ?_ 52 (.tmp 4) (.tmp 59) ?_ (w.heap.size + 1) ?_ frZ D ?_ 52 HR.out HSI.out HSI2.out HONE.out ?_); (· exact rfl); (· exact rfl); (· exact rfl); (· exact rfl); intro w9 hB9 hM9; have HB9 := Lib.hid hB9; have HM9 : Hid (Mod (fun _ => False) w w9) := HMR.out.trans' hM9 (fun i hi e => by omega); have HFV9 : Hid (FrV w9 R ud ur) := HF0.out.kept HM9.out; clear hB9 hM9)
    | fail)
   have hl := blk_loadVar (P := Tryz.prog) HB9.out Tryz.underlying52 rfl HSI.out
   refine bodyPost_ret (v := .agg D) ?_ rfl ⟨ud, ur, (by rw [HDD.out]), HFV9.out, HM9.out⟩
   exact results_cell Tryz.results74 _ rfl hl
end Go.Proofs.YtolgeghdkoodnaaGreatDoor
namespace Go.Proofs.YtolgeghdkoodnaaGreatDoor
open Go.RowKit
theorem what_known {k : Int} {m : Mk} (hm : maskK k = some m) : whatL k ≠ [63] ∧ (whatL k).length ≤ 4 := by
 rcases kind_cases hm with hk | hk | hk | hk | hk | hk | hk | hk | hk | hk | hk | hk | hk | hk | hk | hk | hk | hk | hk | hk
 all_goals (subst hk; exact ⟨by decide, by decide⟩)
theorem only_mask {f : Fr} {m : Mk} (hm : maskK f.k = some m) : onlyS f (whatL f.k) = onlyF m f ∧ whatL f.k ≠ [63] ∧ (whatL f.k).length ≤ 4 := by
 refine ⟨?_, what_known hm⟩
 obtain ⟨k, id, a, b, c, fl, d, rs, t⟩ := f
 have hm2 := hm
 rcases kind_cases hm with hk | hk | hk | hk | hk | hk | hk | hk | hk | hk | hk | hk | hk | hk | hk | hk | hk | hk | hk | hk
 all_goals (simp only at hk; subst hk; obtain rfl := Option.some.inj hm2; first | kernel_rfl | rfl)
theorem what_none {k : Int} (h : maskK k = none) : whatL k = [63] := by
 have hh : ∀ z : Int, (maskK z).isSome = true → ¬ k = z := fun z hz e => by subst e; rw [h] at hz; cases hz
 have n0 := hh 0 rfl
 have n1 := hh 1 rfl
 have n2 := hh 2 rfl
 have n4 := hh 4 rfl
 have n5 := hh 5 rfl
 have n6 := hh 6 rfl
 have n7 := hh 7 rfl
 have n8 := hh 8 rfl
 have n16 := hh 16 rfl
 have n17 := hh 17 rfl
 have n18 := hh 18 rfl
 have n20 := hh 20 rfl
 have n21 := hh 21 rfl
 have n22 := hh 22 rfl
 have n24 := hh 24 rfl
 have n25 := hh 25 rfl
 have n26 := hh 26 rfl
 have n27 := hh 27 rfl
 have n28 := hh 28 rfl
 have n30 := hh 30 rfl
 unfold whatL
 simp [n0, n1, n2, n4, n5, n6, n7, n8, n16, n17, n18, n20, n21, n22, n24, n25, n26, n27, n28, n30]
theorem bytes_toList (x : List UInt8) : (ByteArray.mk x.toArray).toList = x := by
 rw [ByteArray.toList_eq]
theorem only_rs (m : Mk) (f : Fr) {n : Nat} (h : f.rs.length = n) (hn : (n : Int) ≤ 100000) : ((onlyF m f).rs.length : Int) ≤ 100000 := by
 unfold onlyF
 simp only
 cases m.r
 ·show ((0 : Nat) : Int) ≤ 100000; decide
 ·show (f.rs.length : Int) ≤ 100000; rw [h]; exact hn
theorem top_no {f : Fr} (h : topN < f.id ∨ topN < f.a ∨ topN < f.b ∨ topN < f.c) : topB f = false := by
 cases ht : topB f with
 | false => rfl
 | true =>
  obtain ⟨h1, h2, h3, h4⟩ := top_parts ht
  omega
theorem top_yes {f : Fr} (h1 : f.id ≤ topN) (h2 : f.a ≤ topN) (h3 : f.b ≤ topN) (h4 : f.c ≤ topN) : topB f = true := by
 unfold topB
 rw [decide_eq_true h1, decide_eq_true h2, decide_eq_true h3, decide_eq_true h4]
 rfl
set_option maxHeartbeats 16000000 in
set_option maxRecDepth 10000 in
theorem refright_any {w : World} {f : Fr} {vd vr : Value} (hv : FrV w f vd vr) (hrl : (f.rs.length : Int) ≤ 100000) (hro : RngOk f) :
  Calls Tryz.prog 38 #[frV f vd vr] w fun e w' => e = .returned (.bool (rightF f)) ∧ Mod (fun _ => False) w w' := by
 obtain ⟨R, hR⟩ : ∃ R, R = rightF f := ⟨_, rfl⟩
 rw [← hR]
 have HRR := Lib.hid hR
 have HV := Lib.hid hv
 have HRO := Lib.hid hro
 have HF0 := Lib.hid (FrB.new w f vd vr hv.t)
 have HM0 : Hid (Mod (fun _ => False) w (w.alloc (.cells (frC f vd vr) 52))) := (Mod.refl _ _).alloc _
 obtain ⟨da, dc, rfl, _⟩ := byts_val hv.d
 obtain ⟨ra, rc, rfl, hrc, _⟩ := rg_val hv.r
 have hdl := hv.dl
 obtain ⟨nd, hnd⟩ : ∃ n, f.d.length = n := ⟨_, rfl⟩
 obtain ⟨nr, hnr⟩ : ∃ n, f.rs.length = n := ⟨_, rfl⟩
 have HND := Lib.hid hnd
 have HNR := Lib.hid hnr
 rw [hnd, hnr] at HV HF0 HM0 ⊢
 rw [hnd] at hdl
 rw [hnr] at hrl hrc
 have hrc2 : (nr : Int) ≤ rc := by omega
 obtain ⟨k, hk⟩ : ∃ k, f.k = k := ⟨_, rfl⟩
 have HK := Lib.hid hk
 obtain ⟨C, hC⟩ : ∃ C, C = frC f (.slice da nd dc) (.slice ra nr rc) := ⟨_, rfl⟩
 have HC := Lib.hid hC
 have e0 : C[0]? = some (.int .i64 k) := by rw [hC, ← hk]; rfl
 unfold frV
 rw [← hC] at HM0 ⊢
 have HF1 : Hid (FrB (w.alloc (.cells C 52)) w.heap.size f (.slice da nd dc) (.slice ra nr rc)) := by show FrB _ _ _ _ _; rw [hC]; exact HF0.out
 clear HF0 hR hv hro hnd hnr hk hC hrc
 go_enter Tryz.func38, Tryz.ntmps38
 go_wp2_with fail
 refine (what_any _ k).mono ?_
 rintro e w1 ⟨rfl, rfl⟩
 unfold strV
 obtain ⟨s1, hs1⟩ : ∃ s, s = ByteArray.mk (whatL k).toArray := ⟨_, rfl⟩
 rw [← hs1]
 have HS1 := Lib.hid hs1
 clear hs1 e0
 go_wp2_with fail
 generalize hW1 : w.alloc (.cells C 52) = W1 at *
 clear hW1
 (try go_frame)
 cases hm : maskK k with
 | none =>
  have HMN := Lib.hid hm
  have HEQ : Hid (s1.toList = [63]) := by
   show _ = _
   rw [HS1.out, what_none HMN.out]
   exact bytes_toList [63]
  clear hm
  refine wp_region_held_drew (S := fun X => Mod (fun _ => False) W1 X) (by kernel_rfl) (Mod.refl _ _).drew (fun hS => ?_)
  refine takeH (i := 0) (v := .string s1) (some 9) rfl rfl (by kernel_rfl) (by kernel_rfl) (by kernel_rfl) (fun _ _ _ h => h) (Or.inl ⟨by rfl, fun X hX => ?_⟩) hS ?_
  ·go_simp
  (try go_frame)
  refine takeH (i := 1) (v := .bool true) (some 10) rfl rfl (by kernel_rfl) (by kernel_rfl) (by kernel_rfl) (fun _ _ _ h => h) (Or.inl ⟨by rfl, fun X hX => ?_⟩) hS ?_
  ·have heq := HEQ.out; (try go_simp); (try exact heq)
  (try go_frame)
  refine takeH (i := 2) (v := .bool true) (some 11) rfl rfl (by kernel_rfl) (by kernel_rfl) (by kernel_rfl) (fun _ _ _ h => h) (Or.inl ⟨by rfl, fun X hX => ?_⟩) hS ?_
  ·go_simp
  (try go_frame)
  refine takeH (i := 3) (v := undef) (some 12) rfl rfl (by kernel_rfl) (by kernel_rfl) (by kernel_rfl) (fun _ _ _ h => h) (Or.inr ⟨by rfl, rfl⟩) hS ?_
  (try go_frame)
  refine takeH (i := 4) (v := undef) (some 13) rfl rfl (by kernel_rfl) (by kernel_rfl) (by kernel_rfl) (fun _ _ _ h => h) (Or.inr ⟨by rfl, rfl⟩) hS ?_
  (try go_frame)
  refine takeH (i := 5) (v := undef) (some 14) rfl rfl (by kernel_rfl) (by kernel_rfl) (by kernel_rfl) (fun _ _ _ h => h) (Or.inr ⟨by rfl, rfl⟩) hS ?_
  (try go_frame)
  refine takeH (i := 6) (v := undef) (some 15) rfl rfl (by kernel_rfl) (by kernel_rfl) (by kernel_rfl) (fun _ _ _ h => h) (Or.inr ⟨by rfl, rfl⟩) hS ?_
  (try go_frame)
  refine takeH (i := 7) (v := undef) (some 16) rfl rfl (by kernel_rfl) (by kernel_rfl) (by kernel_rfl) (fun _ _ _ h => h) (Or.inr ⟨by rfl, rfl⟩) hS ?_
  (try go_frame)
  refine takeH (i := 8) (v := undef) (some 17) rfl rfl (by kernel_rfl) (by kernel_rfl) (by kernel_rfl) (fun _ _ _ h => h) (Or.inr ⟨by rfl, rfl⟩) hS ?_
  (try go_frame)
  refine takeH (i := 9) (v := .bool true) (some 18) rfl rfl (by kernel_rfl) (by kernel_rfl) (by kernel_rfl) (fun _ _ _ h => h) (Or.inl ⟨by rfl, fun X hX => ?_⟩) hS ?_
  ·go_simp
  (try go_frame)
  refine takeH (i := 10) (v := .bool true) (some 19) rfl rfl (by kernel_rfl) (by kernel_rfl) (by kernel_rfl) (fun _ _ _ h => h) (Or.inl ⟨by rfl, fun X hX => ?_⟩) hS ?_
  ·go_simp
  (try go_frame)
  refine takeH (i := 11) (v := undef) (some 20) rfl rfl (by kernel_rfl) (by kernel_rfl) (by kernel_rfl) (fun _ _ _ h => h) (Or.inr ⟨by rfl, rfl⟩) hS ?_
  (try go_frame)
  refine takeH (i := 12) (v := undef) (some 21) rfl rfl (by kernel_rfl) (by kernel_rfl) (by kernel_rfl) (fun _ _ _ h => h) (Or.inr ⟨by rfl, rfl⟩) hS ?_
  (try go_frame)
  refine takeH (i := 13) (v := undef) (some 22) rfl rfl (by kernel_rfl) (by kernel_rfl) (by kernel_rfl) (fun _ _ _ h => h) (Or.inr ⟨by rfl, rfl⟩) hS ?_
  (try go_frame)
  refine takeH (i := 14) (v := .bool true) (some 23) rfl rfl (by kernel_rfl) (by kernel_rfl) (by kernel_rfl) (fun _ _ _ h => h) (Or.inl ⟨by rfl, fun X hX => ?_⟩) hS ?_
  ·go_simp
  (try go_frame)
  refine takeH (i := 15) (v := .bool true) (some 24) rfl rfl (by kernel_rfl) (by kernel_rfl) (by kernel_rfl) (fun _ _ _ h => h) (Or.inl ⟨by rfl, fun X hX => ?_⟩) hS ?_
  ·go_simp
  (try go_frame)
  refine takeH (i := 16) (v := undef) (some 25) rfl rfl (by kernel_rfl) (by kernel_rfl) (by kernel_rfl) (fun _ _ _ h => h) (Or.inr ⟨by rfl, rfl⟩) hS ?_
  (try go_frame)
  refine takeH (i := 17) (v := undef) (some 26) rfl rfl (by kernel_rfl) (by kernel_rfl) (by kernel_rfl) (fun _ _ _ h => h) (Or.inr ⟨by rfl, rfl⟩) hS ?_
  (try go_frame)
  refine takeH (i := 18) (v := undef) (some 27) rfl rfl (by kernel_rfl) (by kernel_rfl) (by kernel_rfl) (fun _ _ _ h => h) (Or.inr ⟨by rfl, rfl⟩) hS ?_
  (try go_frame)
  refine takeH (i := 19) (v := .bool true) (some 28) rfl rfl (by kernel_rfl) (by kernel_rfl) (by kernel_rfl) (fun _ _ _ h => h) (Or.inl ⟨by rfl, fun X hX => ?_⟩) hS ?_
  ·go_simp
  (try go_frame)
  refine takeH (i := 20) (v := .bool true) (some 29) rfl rfl (by kernel_rfl) (by kernel_rfl) (by kernel_rfl) (fun _ _ _ h => h) (Or.inl ⟨by rfl, fun X hX => ?_⟩) hS ?_
  ·go_simp
  (try go_frame)
  refine takeH (i := 21) (v := undef) (some 30) rfl rfl (by kernel_rfl) (by kernel_rfl) (by kernel_rfl) (fun _ _ _ h => h) (Or.inr ⟨by rfl, rfl⟩) hS ?_
  (try go_frame)
  refine takeH (i := 22) (v := undef) (some 31) rfl rfl (by kernel_rfl) (by kernel_rfl) (by kernel_rfl) (fun _ _ _ h => h) (Or.inr ⟨by rfl, rfl⟩) hS ?_
  (try go_frame)
  refine takeH (i := 23) (v := undef) (some 32) rfl rfl (by kernel_rfl) (by kernel_rfl) (by kernel_rfl) (fun _ _ _ h => h) (Or.inr ⟨by rfl, rfl⟩) hS ?_
  (try go_frame)
  refine takeH (i := 24) (v := .bool true) (some 33) rfl rfl (by kernel_rfl) (by kernel_rfl) (by kernel_rfl) (fun _ _ _ h => h) (Or.inl ⟨by rfl, fun X hX => ?_⟩) hS ?_
  ·go_simp
  (try go_frame)
  refine takeH (i := 25) (v := .bool true) (some 34) rfl rfl (by kernel_rfl) (by kernel_rfl) (by kernel_rfl) (fun _ _ _ h => h) (Or.inl ⟨by rfl, fun X hX => ?_⟩) hS ?_
  ·go_simp
  (try go_frame)
  refine takeH (i := 26) (v := undef) (some 35) rfl rfl (by kernel_rfl) (by kernel_rfl) (by kernel_rfl) (fun _ _ _ h => h) (Or.inr ⟨by rfl, rfl⟩) hS ?_
  (try go_frame)
  refine takeH (i := 27) (v := undef) (some 36) rfl rfl (by kernel_rfl) (by kernel_rfl) (by kernel_rfl) (fun _ _ _ h => h) (Or.inr ⟨by rfl, rfl⟩) hS ?_
  (try go_frame)
  refine takeH (i := 28) (v := undef) (some 37) rfl rfl (by kernel_rfl) (by kernel_rfl) (by kernel_rfl) (fun _ _ _ h => h) (Or.inr ⟨by rfl, rfl⟩) hS ?_
  (try go_frame)
  refine takeH (i := 29) (v := .bool true) (some 38) rfl rfl (by kernel_rfl) (by kernel_rfl) (by kernel_rfl) (fun _ _ _ h => h) (Or.inl ⟨by rfl, fun X hX => ?_⟩) hS ?_
  ·go_simp
  (try go_frame)
  refine wpAnyH_done (by kernel_rfl) ?_ _
  have HM := Lib.hid (HM0.out.trans hS)
  clear hS
  go_wp2_with fail
  go_ret
  refine ⟨ret_bool ?_, HM.out⟩
  rw [HRR.out]
  unfold rightF
  rw [HK.out, HMN.out]
 | some m =>
  have HMM := Lib.hid hm
  have HEQ : Hid (¬ s1.toList = [63]) := by
   show ¬ _
   rw [HS1.out, bytes_toList]
   exact (what_known hm).1
  have HONL : Hid (∀ X : World, Mod (fun _ => False) W1 X → Calls Tryz.prog 74 #[.agg C, .string s1] X fun e w' => ∃ ud ur D, e = .returned (.agg D) ∧ D = frC (onlyF m f) ud ur ∧ FrV w' (onlyF m f) ud ur ∧ Mod (fun _ => False) X w') := by
   intro X hX
   have ho := only_mask (f := f) (by rw [HK.out]; exact hm)
   rw [HK.out] at ho
   have h := only_any (HV.out.kept (HM0.out.trans hX)) (whatL k) (by have := ho.2.2; omega)
   rw [ho.1] at h
   have e1 : frV f (.slice da nd dc) (.slice ra nr rc) = .agg C := by rw [HC.out]; rfl
   have e2 : strV (whatL k) = .string s1 := by rw [HS1.out]; rfl
   rw [e1, e2] at h
   refine h.mono ?_
   rintro e w' ⟨ud, ur, rfl, hv, hM⟩
   exact ⟨ud, ur, _, rfl, rfl, hv, hM⟩
  have HRF : Hid (R = (topB f && sameF f (onlyF m f) && okN f.k.toNat f)) := by
   show _ = _
   rw [HRR.out]
   unfold rightF
   rw [HK.out, hm]
  clear hm HRR
  refine wp_region_held_drew (S := fun X => Mod (fun _ => False) W1 X) (by kernel_rfl) (Mod.refl _ _).drew (fun hS => ?_)
  refine takeH (i := 0) (v := .string s1) (some 9) rfl rfl (by kernel_rfl) (by kernel_rfl) (by kernel_rfl) (fun _ _ _ h => h) (Or.inl ⟨by rfl, fun X hX => ?_⟩) hS ?_
  ·go_simp
  (try go_frame)
  refine takeH (i := 1) (v := .bool false) (some 10) rfl rfl (by kernel_rfl) (by kernel_rfl) (by kernel_rfl) (fun _ _ _ h => h) (Or.inl ⟨by rfl, fun X hX => ?_⟩) hS ?_
  ·have heq := HEQ.out; (try go_simp); (try exact heq)
  (try go_frame)
  refine takeH (i := 2) (v := .bool false) (some 11) rfl rfl (by kernel_rfl) (by kernel_rfl) (by kernel_rfl) (fun _ _ _ h => h) (Or.inl ⟨by rfl, fun X hX => ?_⟩) hS ?_
  ·go_simp
  (try go_frame)
  refine takeH (i := 3) (v := .agg C) (some 12) rfl rfl (by kernel_rfl) (by kernel_rfl) (by kernel_rfl) (fun _ _ _ h => h) (Or.inl ⟨by rfl, fun X hX => ?_⟩) hS ?_
  ·exact exec_load' rfl (p := .pointer (some ⟨w.heap.size, 0, none⟩)) (by rfl) (by rw [HC.out]; exact blk_loadAt (HF1.out.kept hX))
  (try go_frame)
  refine takeH (i := 4) (v := .agg C) (some 13) rfl rfl (by kernel_rfl) (by kernel_rfl) (by kernel_rfl) (fun _ _ _ h => h) (Or.inl ⟨by rfl, fun X hX => ?_⟩) hS ?_
  ·exact exec_load' rfl (p := .pointer (some ⟨w.heap.size, 0, none⟩)) (by rfl) (by rw [HC.out]; exact blk_loadAt (HF1.out.kept hX))
  (try go_frame)
  refine takeH (i := 5) (v := .string s1) (some 14) rfl rfl (by kernel_rfl) (by kernel_rfl) (by kernel_rfl) (fun _ _ _ h => h) (Or.inl ⟨by rfl, fun X hX => ?_⟩) hS ?_
  ·go_simp
  (try go_frame)
  refine wpAnyH_ready (rs := [6]) (by kernel_rfl) (by simp) ?_
  refine AllReadyH.cons rfl (fun K hK => ?_) AllReadyH.nil
  go_simp
  refine (HONL.out _ hS).mono ?_
  rintro e X6 ⟨ud, ur, D, rfl, hD, hgv, hk6⟩
  have HD := Lib.hid hD
  have HGV := Lib.hid hgv
  clear hD hgv
  refine hK.out _ _ (hS.trans hk6) (fun hS => ?_)
  clear hK K
  refine wpAnyH_ready (rs := [7]) (by kernel_rfl) (by simp) ?_
  refine AllReadyH.cons rfl (fun K hK => ?_) AllReadyH.nil
  have hgr := only_rs m f (n := nr) HNR.out hrl
  have HGR := Lib.hid hgr
  clear hgr
  go_simp
  have hgr := HGR.out
  refine (refsame_c HC.out HD.out (HV.out.kept (HM0.out.trans hS)) HGV.out (by have := HNR.out; omega) hgr).mono ?_
  rintro e X7 ⟨rfl, hk7⟩
  refine hK.out _ _ (hS.trans hk7) (fun hS => ?_)
  clear hK K
  clear hk7 hk6 hgr HGV HD HGR
  generalize hsf : sameF f (onlyF m f) = sf at *
  have HSF := Lib.hid hsf
  clear hsf
  cases sf
  ·skip
   refine takeH (i := 8) (v := .bool true) (some 17) rfl rfl (by kernel_rfl) (by kernel_rfl) (by kernel_rfl) (fun _ _ _ h => h) (Or.inl ⟨by rfl, fun X hX => ?_⟩) hS ?_
   ·go_simp
   (try go_frame)
   refine takeH (i := 9) (v := .bool true) (some 18) rfl rfl (by kernel_rfl) (by kernel_rfl) (by kernel_rfl) (fun _ _ _ h => h) (Or.inl ⟨by rfl, fun X hX => ?_⟩) hS ?_
   ·go_simp
   (try go_frame)
   refine takeH (i := 10) (v := .bool true) (some 19) rfl rfl (by kernel_rfl) (by kernel_rfl) (by kernel_rfl) (fun _ _ _ h => h) (Or.inl ⟨by rfl, fun X hX => ?_⟩) hS ?_
   ·go_simp
   (try go_frame)
   refine takeH (i := 11) (v := undef) (some 20) rfl rfl (by kernel_rfl) (by kernel_rfl) (by kernel_rfl) (fun _ _ _ h => h) (Or.inr ⟨by rfl, rfl⟩) hS ?_
   (try go_frame)
   refine takeH (i := 12) (v := undef) (some 21) rfl rfl (by kernel_rfl) (by kernel_rfl) (by kernel_rfl) (fun _ _ _ h => h) (Or.inr ⟨by rfl, rfl⟩) hS ?_
   (try go_frame)
   refine takeH (i := 13) (v := undef) (some 22) rfl rfl (by kernel_rfl) (by kernel_rfl) (by kernel_rfl) (fun _ _ _ h => h) (Or.inr ⟨by rfl, rfl⟩) hS ?_
   (try go_frame)
   refine takeH (i := 14) (v := .bool true) (some 23) rfl rfl (by kernel_rfl) (by kernel_rfl) (by kernel_rfl) (fun _ _ _ h => h) (Or.inl ⟨by rfl, fun X hX => ?_⟩) hS ?_
   ·go_simp
   (try go_frame)
   refine takeH (i := 15) (v := .bool true) (some 24) rfl rfl (by kernel_rfl) (by kernel_rfl) (by kernel_rfl) (fun _ _ _ h => h) (Or.inl ⟨by rfl, fun X hX => ?_⟩) hS ?_
   ·go_simp
   (try go_frame)
   refine takeH (i := 16) (v := undef) (some 25) rfl rfl (by kernel_rfl) (by kernel_rfl) (by kernel_rfl) (fun _ _ _ h => h) (Or.inr ⟨by rfl, rfl⟩) hS ?_
   (try go_frame)
   refine takeH (i := 17) (v := undef) (some 26) rfl rfl (by kernel_rfl) (by kernel_rfl) (by kernel_rfl) (fun _ _ _ h => h) (Or.inr ⟨by rfl, rfl⟩) hS ?_
   (try go_frame)
   refine takeH (i := 18) (v := undef) (some 27) rfl rfl (by kernel_rfl) (by kernel_rfl) (by kernel_rfl) (fun _ _ _ h => h) (Or.inr ⟨by rfl, rfl⟩) hS ?_
   (try go_frame)
   refine takeH (i := 19) (v := .bool true) (some 28) rfl rfl (by kernel_rfl) (by kernel_rfl) (by kernel_rfl) (fun _ _ _ h => h) (Or.inl ⟨by rfl, fun X hX => ?_⟩) hS ?_
   ·go_simp
   (try go_frame)
   refine takeH (i := 20) (v := .bool true) (some 29) rfl rfl (by kernel_rfl) (by kernel_rfl) (by kernel_rfl) (fun _ _ _ h => h) (Or.inl ⟨by rfl, fun X hX => ?_⟩) hS ?_
   ·go_simp
   (try go_frame)
   refine takeH (i := 21) (v := undef) (some 30) rfl rfl (by kernel_rfl) (by kernel_rfl) (by kernel_rfl) (fun _ _ _ h => h) (Or.inr ⟨by rfl, rfl⟩) hS ?_
   (try go_frame)
   refine takeH (i := 22) (v := undef) (some 31) rfl rfl (by kernel_rfl) (by kernel_rfl) (by kernel_rfl) (fun _ _ _ h => h) (Or.inr ⟨by rfl, rfl⟩) hS ?_
   (try go_frame)
   refine takeH (i := 23) (v := undef) (some 32) rfl rfl (by kernel_rfl) (by kernel_rfl) (by kernel_rfl) (fun _ _ _ h => h) (Or.inr ⟨by rfl, rfl⟩) hS ?_
   (try go_frame)
   refine takeH (i := 24) (v := .bool true) (some 33) rfl rfl (by kernel_rfl) (by kernel_rfl) (by kernel_rfl) (fun _ _ _ h => h) (Or.inl ⟨by rfl, fun X hX => ?_⟩) hS ?_
   ·go_simp
   (try go_frame)
   refine takeH (i := 25) (v := .bool true) (some 34) rfl rfl (by kernel_rfl) (by kernel_rfl) (by kernel_rfl) (fun _ _ _ h => h) (Or.inl ⟨by rfl, fun X hX => ?_⟩) hS ?_
   ·go_simp
   (try go_frame)
   refine takeH (i := 26) (v := undef) (some 35) rfl rfl (by kernel_rfl) (by kernel_rfl) (by kernel_rfl) (fun _ _ _ h => h) (Or.inr ⟨by rfl, rfl⟩) hS ?_
   (try go_frame)
   refine takeH (i := 27) (v := undef) (some 36) rfl rfl (by kernel_rfl) (by kernel_rfl) (by kernel_rfl) (fun _ _ _ h => h) (Or.inr ⟨by rfl, rfl⟩) hS ?_
   (try go_frame)
   refine takeH (i := 28) (v := undef) (some 37) rfl rfl (by kernel_rfl) (by kernel_rfl) (by kernel_rfl) (fun _ _ _ h => h) (Or.inr ⟨by rfl, rfl⟩) hS ?_
   (try go_frame)
   refine takeH (i := 29) (v := .bool true) (some 38) rfl rfl (by kernel_rfl) (by kernel_rfl) (by kernel_rfl) (fun _ _ _ h => h) (Or.inl ⟨by rfl, fun X hX => ?_⟩) hS ?_
   ·go_simp
   (try go_frame)
   refine wpAnyH_done (by kernel_rfl) ?_ _
   have HM := Lib.hid (HM0.out.trans hS)
   clear hS
   go_wp2_with fail
   go_ret
   exact ⟨ret_bool (by rw [HRF.out]; simp), HM.out⟩
  ·skip
   refine takeH (i := 8) (v := .bool false) (some 17) rfl rfl (by kernel_rfl) (by kernel_rfl) (by kernel_rfl) (fun _ _ _ h => h) (Or.inl ⟨by rfl, fun X hX => ?_⟩) hS ?_
   ·go_simp
   (try go_frame)
   refine takeH (i := 9) (v := .bool false) (some 18) rfl rfl (by kernel_rfl) (by kernel_rfl) (by kernel_rfl) (fun _ _ _ h => h) (Or.inl ⟨by rfl, fun X hX => ?_⟩) hS ?_
   ·go_simp
   (try go_frame)
   refine takeH (i := 10) (v := .bool false) (some 19) rfl rfl (by kernel_rfl) (by kernel_rfl) (by kernel_rfl) (fun _ _ _ h => h) (Or.inl ⟨by rfl, fun X hX => ?_⟩) hS ?_
   ·go_simp
   (try go_frame)
   refine takeH (i := 11) (v := .pointer (some ⟨w.heap.size, 1, none⟩)) (some 20) rfl rfl (by kernel_rfl) (by kernel_rfl) (by kernel_rfl) (fun _ _ _ h => h) (Or.inl ⟨by rfl, fun X hX => ?_⟩) hS ?_
   ·go_simp
   (try go_frame)
   refine takeH (i := 12) (v := .int .u64 (f.id : Int)) (some 21) rfl rfl (by kernel_rfl) (by kernel_rfl) (by kernel_rfl) (fun _ _ _ h => h) (Or.inl ⟨by rfl, fun X hX => ?_⟩) hS ?_
   ·have c := (HF1.out.kept hX).cells.2.1; go_simp
   (try go_frame)
   by_cases hid : (f.id : Int) ≤ 4611686018427387903
   case neg =>
    have qqid : decide ((4611686018427387903 : Int) < (f.id : Int)) = true := decide_eq_true (by omega)
    have HTid : Hid (topB f = false) := top_no (by unfold topN; omega)
    clear hid
    refine takeH (i := 13) (v := .bool true) (some 22) rfl rfl (by kernel_rfl) (by kernel_rfl) (by kernel_rfl) (fun _ _ _ h => h) (Or.inl ⟨by rfl, fun X hX => ?_⟩) hS ?_
    ·go_simp
    (try go_frame)
    refine takeH (i := 14) (v := .bool true) (some 23) rfl rfl (by kernel_rfl) (by kernel_rfl) (by kernel_rfl) (fun _ _ _ h => h) (Or.inl ⟨by rfl, fun X hX => ?_⟩) hS ?_
    ·go_simp
    (try go_frame)
    refine takeH (i := 15) (v := .bool true) (some 24) rfl rfl (by kernel_rfl) (by kernel_rfl) (by kernel_rfl) (fun _ _ _ h => h) (Or.inl ⟨by rfl, fun X hX => ?_⟩) hS ?_
    ·go_simp
    (try go_frame)
    refine takeH (i := 16) (v := undef) (some 25) rfl rfl (by kernel_rfl) (by kernel_rfl) (by kernel_rfl) (fun _ _ _ h => h) (Or.inr ⟨by rfl, rfl⟩) hS ?_
    (try go_frame)
    refine takeH (i := 17) (v := undef) (some 26) rfl rfl (by kernel_rfl) (by kernel_rfl) (by kernel_rfl) (fun _ _ _ h => h) (Or.inr ⟨by rfl, rfl⟩) hS ?_
    (try go_frame)
    refine takeH (i := 18) (v := undef) (some 27) rfl rfl (by kernel_rfl) (by kernel_rfl) (by kernel_rfl) (fun _ _ _ h => h) (Or.inr ⟨by rfl, rfl⟩) hS ?_
    (try go_frame)
    refine takeH (i := 19) (v := .bool true) (some 28) rfl rfl (by kernel_rfl) (by kernel_rfl) (by kernel_rfl) (fun _ _ _ h => h) (Or.inl ⟨by rfl, fun X hX => ?_⟩) hS ?_
    ·go_simp
    (try go_frame)
    refine takeH (i := 20) (v := .bool true) (some 29) rfl rfl (by kernel_rfl) (by kernel_rfl) (by kernel_rfl) (fun _ _ _ h => h) (Or.inl ⟨by rfl, fun X hX => ?_⟩) hS ?_
    ·go_simp
    (try go_frame)
    refine takeH (i := 21) (v := undef) (some 30) rfl rfl (by kernel_rfl) (by kernel_rfl) (by kernel_rfl) (fun _ _ _ h => h) (Or.inr ⟨by rfl, rfl⟩) hS ?_
    (try go_frame)
    refine takeH (i := 22) (v := undef) (some 31) rfl rfl (by kernel_rfl) (by kernel_rfl) (by kernel_rfl) (fun _ _ _ h => h) (Or.inr ⟨by rfl, rfl⟩) hS ?_
    (try go_frame)
    refine takeH (i := 23) (v := undef) (some 32) rfl rfl (by kernel_rfl) (by kernel_rfl) (by kernel_rfl) (fun _ _ _ h => h) (Or.inr ⟨by rfl, rfl⟩) hS ?_
    (try go_frame)
    refine takeH (i := 24) (v := .bool true) (some 33) rfl rfl (by kernel_rfl) (by kernel_rfl) (by kernel_rfl) (fun _ _ _ h => h) (Or.inl ⟨by rfl, fun X hX => ?_⟩) hS ?_
    ·go_simp
    (try go_frame)
    refine takeH (i := 25) (v := .bool true) (some 34) rfl rfl (by kernel_rfl) (by kernel_rfl) (by kernel_rfl) (fun _ _ _ h => h) (Or.inl ⟨by rfl, fun X hX => ?_⟩) hS ?_
    ·go_simp
    (try go_frame)
    refine takeH (i := 26) (v := undef) (some 35) rfl rfl (by kernel_rfl) (by kernel_rfl) (by kernel_rfl) (fun _ _ _ h => h) (Or.inr ⟨by rfl, rfl⟩) hS ?_
    (try go_frame)
    refine takeH (i := 27) (v := undef) (some 36) rfl rfl (by kernel_rfl) (by kernel_rfl) (by kernel_rfl) (fun _ _ _ h => h) (Or.inr ⟨by rfl, rfl⟩) hS ?_
    (try go_frame)
    refine takeH (i := 28) (v := undef) (some 37) rfl rfl (by kernel_rfl) (by kernel_rfl) (by kernel_rfl) (fun _ _ _ h => h) (Or.inr ⟨by rfl, rfl⟩) hS ?_
    (try go_frame)
    refine takeH (i := 29) (v := .bool true) (some 38) rfl rfl (by kernel_rfl) (by kernel_rfl) (by kernel_rfl) (fun _ _ _ h => h) (Or.inl ⟨by rfl, fun X hX => ?_⟩) hS ?_
    ·go_simp
    (try go_frame)
    refine wpAnyH_done (by kernel_rfl) ?_ _
    have HM := Lib.hid (HM0.out.trans hS)
    clear hS
    go_wp2_with fail
    go_ret
    exact ⟨ret_bool (by rw [HRF.out, HTid.out]; rfl), HM.out⟩
   have qqid : decide ((4611686018427387903 : Int) < (f.id : Int)) = false := decide_eq_false (by omega)
   have HBid := Lib.hid hid
   clear hid
   refine takeH (i := 13) (v := .bool false) (some 22) rfl rfl (by kernel_rfl) (by kernel_rfl) (by kernel_rfl) (fun _ _ _ h => h) (Or.inl ⟨by rfl, fun X hX => ?_⟩) hS ?_
   ·go_simp
   (try go_frame)
   refine takeH (i := 14) (v := .bool false) (some 23) rfl rfl (by kernel_rfl) (by kernel_rfl) (by kernel_rfl) (fun _ _ _ h => h) (Or.inl ⟨by rfl, fun X hX => ?_⟩) hS ?_
   ·go_simp
   (try go_frame)
   refine takeH (i := 15) (v := .bool false) (some 24) rfl rfl (by kernel_rfl) (by kernel_rfl) (by kernel_rfl) (fun _ _ _ h => h) (Or.inl ⟨by rfl, fun X hX => ?_⟩) hS ?_
   ·go_simp
   (try go_frame)
   refine takeH (i := 16) (v := .pointer (some ⟨w.heap.size, 2, none⟩)) (some 25) rfl rfl (by kernel_rfl) (by kernel_rfl) (by kernel_rfl) (fun _ _ _ h => h) (Or.inl ⟨by rfl, fun X hX => ?_⟩) hS ?_
   ·go_simp
   (try go_frame)
   refine takeH (i := 17) (v := .int .u64 (f.a : Int)) (some 26) rfl rfl (by kernel_rfl) (by kernel_rfl) (by kernel_rfl) (fun _ _ _ h => h) (Or.inl ⟨by rfl, fun X hX => ?_⟩) hS ?_
   ·have c := (HF1.out.kept hX).cells.2.2.1; go_simp
   (try go_frame)
   by_cases ha : (f.a : Int) ≤ 4611686018427387903
   case neg =>
    have qqa : decide ((4611686018427387903 : Int) < (f.a : Int)) = true := decide_eq_true (by omega)
    have HTa : Hid (topB f = false) := top_no (by unfold topN; omega)
    clear ha
    refine takeH (i := 18) (v := .bool true) (some 27) rfl rfl (by kernel_rfl) (by kernel_rfl) (by kernel_rfl) (fun _ _ _ h => h) (Or.inl ⟨by rfl, fun X hX => ?_⟩) hS ?_
    ·go_simp
    (try go_frame)
    refine takeH (i := 19) (v := .bool true) (some 28) rfl rfl (by kernel_rfl) (by kernel_rfl) (by kernel_rfl) (fun _ _ _ h => h) (Or.inl ⟨by rfl, fun X hX => ?_⟩) hS ?_
    ·go_simp
    (try go_frame)
    refine takeH (i := 20) (v := .bool true) (some 29) rfl rfl (by kernel_rfl) (by kernel_rfl) (by kernel_rfl) (fun _ _ _ h => h) (Or.inl ⟨by rfl, fun X hX => ?_⟩) hS ?_
    ·go_simp
    (try go_frame)
    refine takeH (i := 21) (v := undef) (some 30) rfl rfl (by kernel_rfl) (by kernel_rfl) (by kernel_rfl) (fun _ _ _ h => h) (Or.inr ⟨by rfl, rfl⟩) hS ?_
    (try go_frame)
    refine takeH (i := 22) (v := undef) (some 31) rfl rfl (by kernel_rfl) (by kernel_rfl) (by kernel_rfl) (fun _ _ _ h => h) (Or.inr ⟨by rfl, rfl⟩) hS ?_
    (try go_frame)
    refine takeH (i := 23) (v := undef) (some 32) rfl rfl (by kernel_rfl) (by kernel_rfl) (by kernel_rfl) (fun _ _ _ h => h) (Or.inr ⟨by rfl, rfl⟩) hS ?_
    (try go_frame)
    refine takeH (i := 24) (v := .bool true) (some 33) rfl rfl (by kernel_rfl) (by kernel_rfl) (by kernel_rfl) (fun _ _ _ h => h) (Or.inl ⟨by rfl, fun X hX => ?_⟩) hS ?_
    ·go_simp
    (try go_frame)
    refine takeH (i := 25) (v := .bool true) (some 34) rfl rfl (by kernel_rfl) (by kernel_rfl) (by kernel_rfl) (fun _ _ _ h => h) (Or.inl ⟨by rfl, fun X hX => ?_⟩) hS ?_
    ·go_simp
    (try go_frame)
    refine takeH (i := 26) (v := undef) (some 35) rfl rfl (by kernel_rfl) (by kernel_rfl) (by kernel_rfl) (fun _ _ _ h => h) (Or.inr ⟨by rfl, rfl⟩) hS ?_
    (try go_frame)
    refine takeH (i := 27) (v := undef) (some 36) rfl rfl (by kernel_rfl) (by kernel_rfl) (by kernel_rfl) (fun _ _ _ h => h) (Or.inr ⟨by rfl, rfl⟩) hS ?_
    (try go_frame)
    refine takeH (i := 28) (v := undef) (some 37) rfl rfl (by kernel_rfl) (by kernel_rfl) (by kernel_rfl) (fun _ _ _ h => h) (Or.inr ⟨by rfl, rfl⟩) hS ?_
    (try go_frame)
    refine takeH (i := 29) (v := .bool true) (some 38) rfl rfl (by kernel_rfl) (by kernel_rfl) (by kernel_rfl) (fun _ _ _ h => h) (Or.inl ⟨by rfl, fun X hX => ?_⟩) hS ?_
    ·go_simp
    (try go_frame)
    refine wpAnyH_done (by kernel_rfl) ?_ _
    have HM := Lib.hid (HM0.out.trans hS)
    clear hS
    go_wp2_with fail
    go_ret
    exact ⟨ret_bool (by rw [HRF.out, HTa.out]; rfl), HM.out⟩
   have qqa : decide ((4611686018427387903 : Int) < (f.a : Int)) = false := decide_eq_false (by omega)
   have HBa := Lib.hid ha
   clear ha
   refine takeH (i := 18) (v := .bool false) (some 27) rfl rfl (by kernel_rfl) (by kernel_rfl) (by kernel_rfl) (fun _ _ _ h => h) (Or.inl ⟨by rfl, fun X hX => ?_⟩) hS ?_
   ·go_simp
   (try go_frame)
   refine takeH (i := 19) (v := .bool false) (some 28) rfl rfl (by kernel_rfl) (by kernel_rfl) (by kernel_rfl) (fun _ _ _ h => h) (Or.inl ⟨by rfl, fun X hX => ?_⟩) hS ?_
   ·go_simp
   (try go_frame)
   refine takeH (i := 20) (v := .bool false) (some 29) rfl rfl (by kernel_rfl) (by kernel_rfl) (by kernel_rfl) (fun _ _ _ h => h) (Or.inl ⟨by rfl, fun X hX => ?_⟩) hS ?_
   ·go_simp
   (try go_frame)
   refine takeH (i := 21) (v := .pointer (some ⟨w.heap.size, 3, none⟩)) (some 30) rfl rfl (by kernel_rfl) (by kernel_rfl) (by kernel_rfl) (fun _ _ _ h => h) (Or.inl ⟨by rfl, fun X hX => ?_⟩) hS ?_
   ·go_simp
   (try go_frame)
   refine takeH (i := 22) (v := .int .u64 (f.b : Int)) (some 31) rfl rfl (by kernel_rfl) (by kernel_rfl) (by kernel_rfl) (fun _ _ _ h => h) (Or.inl ⟨by rfl, fun X hX => ?_⟩) hS ?_
   ·have c := (HF1.out.kept hX).cells.2.2.2.1; go_simp
   (try go_frame)
   by_cases hb : (f.b : Int) ≤ 4611686018427387903
   case neg =>
    have qqb : decide ((4611686018427387903 : Int) < (f.b : Int)) = true := decide_eq_true (by omega)
    have HTb : Hid (topB f = false) := top_no (by unfold topN; omega)
    clear hb
    refine takeH (i := 23) (v := .bool true) (some 32) rfl rfl (by kernel_rfl) (by kernel_rfl) (by kernel_rfl) (fun _ _ _ h => h) (Or.inl ⟨by rfl, fun X hX => ?_⟩) hS ?_
    ·go_simp
    (try go_frame)
    refine takeH (i := 24) (v := .bool true) (some 33) rfl rfl (by kernel_rfl) (by kernel_rfl) (by kernel_rfl) (fun _ _ _ h => h) (Or.inl ⟨by rfl, fun X hX => ?_⟩) hS ?_
    ·go_simp
    (try go_frame)
    refine takeH (i := 25) (v := .bool true) (some 34) rfl rfl (by kernel_rfl) (by kernel_rfl) (by kernel_rfl) (fun _ _ _ h => h) (Or.inl ⟨by rfl, fun X hX => ?_⟩) hS ?_
    ·go_simp
    (try go_frame)
    refine takeH (i := 26) (v := undef) (some 35) rfl rfl (by kernel_rfl) (by kernel_rfl) (by kernel_rfl) (fun _ _ _ h => h) (Or.inr ⟨by rfl, rfl⟩) hS ?_
    (try go_frame)
    refine takeH (i := 27) (v := undef) (some 36) rfl rfl (by kernel_rfl) (by kernel_rfl) (by kernel_rfl) (fun _ _ _ h => h) (Or.inr ⟨by rfl, rfl⟩) hS ?_
    (try go_frame)
    refine takeH (i := 28) (v := undef) (some 37) rfl rfl (by kernel_rfl) (by kernel_rfl) (by kernel_rfl) (fun _ _ _ h => h) (Or.inr ⟨by rfl, rfl⟩) hS ?_
    (try go_frame)
    refine takeH (i := 29) (v := .bool true) (some 38) rfl rfl (by kernel_rfl) (by kernel_rfl) (by kernel_rfl) (fun _ _ _ h => h) (Or.inl ⟨by rfl, fun X hX => ?_⟩) hS ?_
    ·go_simp
    (try go_frame)
    refine wpAnyH_done (by kernel_rfl) ?_ _
    have HM := Lib.hid (HM0.out.trans hS)
    clear hS
    go_wp2_with fail
    go_ret
    exact ⟨ret_bool (by rw [HRF.out, HTb.out]; rfl), HM.out⟩
   have qqb : decide ((4611686018427387903 : Int) < (f.b : Int)) = false := decide_eq_false (by omega)
   have HBb := Lib.hid hb
   clear hb
   refine takeH (i := 23) (v := .bool false) (some 32) rfl rfl (by kernel_rfl) (by kernel_rfl) (by kernel_rfl) (fun _ _ _ h => h) (Or.inl ⟨by rfl, fun X hX => ?_⟩) hS ?_
   ·go_simp
   (try go_frame)
   refine takeH (i := 24) (v := .bool false) (some 33) rfl rfl (by kernel_rfl) (by kernel_rfl) (by kernel_rfl) (fun _ _ _ h => h) (Or.inl ⟨by rfl, fun X hX => ?_⟩) hS ?_
   ·go_simp
   (try go_frame)
   refine takeH (i := 25) (v := .bool false) (some 34) rfl rfl (by kernel_rfl) (by kernel_rfl) (by kernel_rfl) (fun _ _ _ h => h) (Or.inl ⟨by rfl, fun X hX => ?_⟩) hS ?_
   ·go_simp
   (try go_frame)
   refine takeH (i := 26) (v := .pointer (some ⟨w.heap.size, 4, none⟩)) (some 35) rfl rfl (by kernel_rfl) (by kernel_rfl) (by kernel_rfl) (fun _ _ _ h => h) (Or.inl ⟨by rfl, fun X hX => ?_⟩) hS ?_
   ·go_simp
   (try go_frame)
   refine takeH (i := 27) (v := .int .u64 (f.c : Int)) (some 36) rfl rfl (by kernel_rfl) (by kernel_rfl) (by kernel_rfl) (fun _ _ _ h => h) (Or.inl ⟨by rfl, fun X hX => ?_⟩) hS ?_
   ·have c := (HF1.out.kept hX).cells.2.2.2.2.1; go_simp
   (try go_frame)
   by_cases hc : (f.c : Int) ≤ 4611686018427387903
   case neg =>
    have qqc : decide ((4611686018427387903 : Int) < (f.c : Int)) = true := decide_eq_true (by omega)
    have HTc : Hid (topB f = false) := top_no (by unfold topN; omega)
    clear hc
    refine takeH (i := 28) (v := .bool true) (some 37) rfl rfl (by kernel_rfl) (by kernel_rfl) (by kernel_rfl) (fun _ _ _ h => h) (Or.inl ⟨by rfl, fun X hX => ?_⟩) hS ?_
    ·go_simp
    (try go_frame)
    refine takeH (i := 29) (v := .bool true) (some 38) rfl rfl (by kernel_rfl) (by kernel_rfl) (by kernel_rfl) (fun _ _ _ h => h) (Or.inl ⟨by rfl, fun X hX => ?_⟩) hS ?_
    ·go_simp
    (try go_frame)
    refine wpAnyH_done (by kernel_rfl) ?_ _
    have HM := Lib.hid (HM0.out.trans hS)
    clear hS
    go_wp2_with fail
    go_ret
    exact ⟨ret_bool (by rw [HRF.out, HTc.out]; rfl), HM.out⟩
   have qqc : decide ((4611686018427387903 : Int) < (f.c : Int)) = false := decide_eq_false (by omega)
   have HBc := Lib.hid hc
   clear hc
   refine takeH (i := 28) (v := .bool false) (some 37) rfl rfl (by kernel_rfl) (by kernel_rfl) (by kernel_rfl) (fun _ _ _ h => h) (Or.inl ⟨by rfl, fun X hX => ?_⟩) hS ?_
   ·go_simp
   (try go_frame)
   refine takeH (i := 29) (v := .bool false) (some 38) rfl rfl (by kernel_rfl) (by kernel_rfl) (by kernel_rfl) (fun _ _ _ h => h) (Or.inl ⟨by rfl, fun X hX => ?_⟩) hS ?_
   ·go_simp
   (try go_frame)
   refine wpAnyH_done (by kernel_rfl) ?_ _
   have HTB : Hid (topB f = true) := top_yes (by have := HBid.out; unfold topN; omega) (by have := HBa.out; unfold topN; omega) (by have := HBb.out; unfold topN; omega) (by have := HBc.out; unfold topN; omega)
   have HM := Lib.hid (HM0.out.trans hS)
   have HFX := Lib.hid (HF1.out.kept hS)
   have HOK : Hid (R = okN f.k.toNat f) := by show _ = _; rw [HRF.out, HTB.out]; simp
   generalize hX7 : X7 = W7 at *
   clear hX7 hS qqid qqa qqb qqc HEQ HONL HRF HSF
   obtain ⟨c0, c1, c2, c3, c4, c5, c6, c7⟩ := HFX.out.cells
   rw [HK.out] at c0
   obtain ⟨xa, hxa⟩ : ∃ x, (f.a : Int) = x := ⟨_, rfl⟩
   obtain ⟨xi, hxi⟩ : ∃ x, (f.id : Int) = x := ⟨_, rfl⟩
   have hba : (0 : Int) ≤ xa ∧ xa ≤ 4611686018427387903 := by have := HBa.out; omega
   rw [hxa] at c2
   rw [hxi] at c1
   have HXA := Lib.hid hxa
   have HXI := Lib.hid hxi
   clear hxa hxi c3 c4
   obtain ⟨fl, hfl⟩ : ∃ x, f.fl = x := ⟨_, rfl⟩
   rw [hfl] at c5
   have HFL := Lib.hid hfl
   clear hfl
   have hw1 : IntKind.u64.wrap (nd : Int) = nd := IntWalk.u64_in _ (by omega)
   have hw2 : (nd : Int) ≤ 1200 → IntKind.u64.wrap (xa + nd) = xa + nd := fun h => IntWalk.u64_in _ (by omega)
   rw [HK.out] at HOK
   rcases kind_cases HMM.out with hk | hk | hk | hk | hk | hk | hk | hk | hk | hk | hk | hk | hk | hk | hk | hk | hk | hk | hk | hk
   ·subst hk
    clear HMM
    clear hw2
    go_wp2_with fail
    all_goals go_ret
    all_goals refine ⟨ret_bool ?_, HM.out⟩
    all_goals (rw [HOK.out]; show _ = (decide (1 ≤ f.a) && decide (f.a ≤ 1200)); have := HXA.out; have := HXI.out; have := HND.out; rw [Bool.eq_iff_iff]; simp_all <;> omega)
   ·subst hk
    clear HMM
    go_wp2_with fail
    go_ret
    exact ⟨ret_bool (by rw [HOK.out]; rfl), HM.out⟩
   ·subst hk
    clear HMM
    clear hw1 hw2 c1 c2 c5
    by_cases h1 : (nr : Int) < 1
    ·have dd1 : decide ((nr : Int) < 1) = true := decide_eq_true h1
     go_wp2_with fail
     go_ret
     refine ⟨ret_bool ?_, HM.out⟩
     rw [HOK.out]
     have h0 : f.rs = [] := List.eq_nil_of_length_eq_zero (by have := HNR.out; omega)
     show false = rangesB f.rs
     rw [h0]
     rfl
    have dd1 : decide ((nr : Int) < 1) = false := decide_eq_false h1
    by_cases h16 : (16 : Int) < (nr : Int)
    ·have dd2 : decide ((16 : Int) < (nr : Int)) = true := decide_eq_true h16
     go_wp2_with fail
     go_ret
     refine ⟨ret_bool ?_, HM.out⟩
     rw [HOK.out]
     show false = rangesB f.rs
     unfold rangesB
     rw [HNR.out, decide_eq_false (show ¬ nr ≤ 16 by omega), Bool.and_false]
    have dd2 : decide ((16 : Int) < (nr : Int)) = false := decide_eq_false h16
    have h0l : 0 < f.rs.length := by have := HNR.out; omega
    have hx0 : f.rs[0]? = some f.rs[0] := List.getElem?_eq_getElem h0l
    generalize f.rs[0] = x0 at hx0
    obtain ⟨b, off, cp, hv, _, _, hcs⟩ := rg_addr (HV.out.r.kept HM.out) (by intro e; rw [e] at h0l; simp at h0l)
    simp only [Value.slice.injEq] at hv
    obtain ⟨rfl, -, rfl⟩ := hv
    have HCS := Lib.hid hcs
    have g1 := (hcs 0 x0 hx0).2
    rw [Nat.zero_mul, Nat.add_zero] at g1
    obtain ⟨h0v, hh0⟩ : ∃ x : Int, (x0.2 : Int) = x := ⟨_, rfl⟩
    rw [hh0] at g1
    have HX0 := Lib.hid hx0
    have HH0 := Lib.hid hh0
    clear hcs hx0 hh0 h0l
    by_cases hht : (4611686018427387903 : Int) < h0v
    ·have dd3 : decide ((4611686018427387903 : Int) < h0v) = true := decide_eq_true hht
     go_wp2_with fail
     go_ret
     refine ⟨ret_bool ?_, HM.out⟩
     rw [HOK.out]
     exact (rngB_bad HX0.out (okR_bad2 (by rw [HH0.out]; exact hht))).symm
    have dd3 : decide ((4611686018427387903 : Int) < h0v) = false := decide_eq_false hht
    have HHT : Hid (h0v ≤ 4611686018427387903) := by show _ ≤ _; omega
    have hr1 : (1 : Int) ≤ nr := by omega
    have hr16 : (nr : Int) ≤ 16 := by omega
    clear hht
    go_wp2_with fail
    clear dd1 dd2 dd3 h1 h16 g1 c7 c0 c6
    go_loopw [5] (fun s5 wr => ∃ i : Nat, i ≤ nr ∧ s5 = .int .i64 i ∧ Hid (Mod (fun _ => False) W7 wr) ∧ Hid (seenR f.rs i)) (fun s5 _ => nr - (intOf s5).toNat)
    case atStart => exact ⟨0, Nat.zero_le _, rfl, Mod.refl _ _, fun i s hi _ => by omega⟩
    case round =>
     obtain ⟨i, hi, rfl, HMr, HJ⟩ := hrel
     have b7 := (HFX.out.kept HMr.out).cells.2.2.2.2.2.2.2
     by_cases hin : (i : Int) < nr
     ·have hil : i < f.rs.length := by have := HNR.out; omega
      have hs : f.rs[i]? = some f.rs[i] := List.getElem?_eq_getElem hil
      generalize f.rs[i] = s at hs
      obtain ⟨g0, g1⟩ := HCS.out i s hs
      have g0' := HMr.out.cellAt g0 (fun h => h)
      have g1' := HMr.out.cellAt g1 (fun h => h)
      have HS := Lib.hid hs
      clear g0 g1 hs hil
      obtain ⟨lo, hlo⟩ : ∃ lo : Int, (s.1 : Int) = lo := ⟨_, rfl⟩
      obtain ⟨hh, hhi⟩ : ∃ hi : Int, (s.2 : Int) = hi := ⟨_, rfl⟩
      rw [hlo] at g0'
      rw [hhi] at g1'
      have HLO := Lib.hid hlo
      have HHI := Lib.hid hhi
      clear hlo hhi
      have hM9 := Lib.hid (HM.out.trans HMr.out)
      by_cases h1 : hh < lo
      ·have d1 : decide (hh < lo) = true := decide_eq_true h1
       go_wp2_with fail
       (try go_frame)
       go_quiet (fail)
       go_wp2
       go_ret
       refine ⟨ret_bool ?_, hM9.out.drewN _⟩
       rw [HOK.out]
       exact (rngB_bad HS.out (okR_bad1 (by rw [HLO.out, HHI.out]; exact h1))).symm
      ·have d1 : decide (hh < lo) = false := decide_eq_false h1
       by_cases hi0 : i = 0
       ·subst hi0
        have g0'' : wr.cell? ⟨b, off, none⟩ = some (.int .u64 lo) := by simpa using g0'
        have g1'' : wr.cell? ⟨b, off + 1, none⟩ = some (.int .u64 hh) := by simpa using g1'
        clear g0' g1'
        have d3' : decide ((0 : Int) < ((0 : Nat) : Int)) = false := by decide
        go_wp2_with fail
        (try go_frame)
        go_quiet (fail)
        go_wp2_with fail
        (try go_frame)
        go_quiet (fail)
        go_wp2
        go_roundw
        case rel => exact ⟨1, by omega, by go_num, HMr.out.drewN _, seenR_succ HJ.out HS.out (okR_head (by rw [HLO.out, HHI.out]; omega) (by have e := HX0.out; rw [HS.out] at e; have := Option.some.inj e; rw [this, HH0.out]; exact HHT.out))⟩
        case measure => simp [intOf]; omega
       ·have d3' : decide ((0 : Int) < (i : Int)) = true := decide_eq_true (by omega)
        have d3 : decide (0 < i) = true := decide_eq_true (by omega)
        obtain ⟨j, hj⟩ : ∃ j, i = j + 1 := ⟨i - 1, by omega⟩
        have hjl : j < f.rs.length := by have := HNR.out; omega
        have hp : f.rs[j]? = some f.rs[j] := List.getElem?_eq_getElem hjl
        have hpm := HRO.out _ (List.mem_of_getElem? hp)
        generalize f.rs[j] = p at hp hpm
        have HSP := Lib.hid (HJ.out j p (by omega) hp)
        obtain ⟨q0, _⟩ := HCS.out j p hp
        have q0' : wr.cell? ⟨b, off + j * 2, none⟩ = some (.int .u64 (p.1 : Int)) := HMr.out.cellAt q0 (fun h => h)
        have hjn : (j : Int) < nr := by omega
        have hj0 : (0 : Int) ≤ j := by omega
        have hw : IntKind.i64.wrap ((i : Int) - 1) = (j : Int) := by rw [hj]; exact (IntWalk.i64_in _ (by omega)).trans (by omega)
        obtain ⟨pl, hpl⟩ : ∃ pl : Int, (p.1 : Int) = pl := ⟨_, rfl⟩
        have hpm' : V64 pl := by unfold V64; rw [← hpl]; omega
        rw [hpl] at q0'
        have HPL := Lib.hid hpl
        have HP := Lib.hid hp
        have HJK := Lib.hid hj
        have b7n : ∀ n, (wr.drewN n).cell? ⟨w.heap.size, 7, none⟩ = some (.slice (some ⟨b, off, none⟩) nr rc) := fun n => (HFX.out.kept (HMr.out.drewN n)).cells.2.2.2.2.2.2.2
        have g1n : ∀ n, (wr.drewN n).cell? ⟨b, off + i * 2 + 1, none⟩ = some (.int .u64 hh) := fun n => g1'
        have q0n : ∀ n, (wr.drewN n).cell? ⟨b, off + j * 2, none⟩ = some (.int .u64 pl) := fun n => q0'
        clear q0 hpl hp hjl hpm hi0 hj
        by_cases h4 : pl < 2
        ·have d4 : decide (pl < 2) = true := decide_eq_true h4
         go_wp2_with fail
         (try go_frame)
         go_quiet (fail)
         go_wp2_with fail
         (try go_frame)
         go_quiet (fail)
         go_wp2
         go_ret
         refine ⟨ret_bool ?_, (hM9.out.drewN _).drewN _⟩
         rw [HOK.out]
         exact (rngB_bad HS.out (by have e := HJK.out; subst e; exact okR_bad3 HP.out (.inl (by rw [HPL.out]; exact h4)))).symm
        ·have d4 : decide (pl < 2) = false := decide_eq_false h4
         have hw2 : IntKind.u64.wrap (pl - 2) = pl - 2 := u64_sub2 (by omega) hpm'
         by_cases h5 : pl - 2 < hh
         ·have d5 : decide (pl - 2 < hh) = true := decide_eq_true h5
          go_wp2_with fail
          (try go_frame)
          go_quiet (fail)
          go_wp2_with fail
          (try go_frame)
          go_quiet (fail)
          go_wp2
          go_ret
          refine ⟨ret_bool ?_, (hM9.out.drewN _).drewN _⟩
          rw [HOK.out]
          exact (rngB_bad HS.out (by have e := HJK.out; subst e; exact okR_bad3 HP.out (.inr (by rw [HPL.out, HHI.out]; exact h5)))).symm
         ·have d5 : decide (pl - 2 < hh) = false := decide_eq_false h5
          go_wp2_with fail
          (try go_frame)
          go_quiet (fail)
          go_wp2_with fail
          (try go_frame)
          go_quiet (fail)
          go_wp2
          go_roundw
          case rel => exact ⟨i + 1, by omega, by go_num, HMr.out.drewN _, seenR_succ HJ.out HS.out (by have e := HJK.out; subst e; have hq := HSP.out; exact okR_next HP.out (by rw [HLO.out, HHI.out]; omega) (by have h6 := hq.1; have h7 := hq.2.1; have h8 := HPL.out; have h9 := HHI.out; unfold topN at h7; omega) (by have h8 := HPL.out; omega) (by have h8 := HPL.out; have h9 := HHI.out; omega))⟩
          case measure => simp [intOf]; omega
     ·have hin' : i = nr := by omega
      have hall : Hid (rngB none f.rs = true) := (rngB_iff f.rs none).2 (fun j x hx => HJ.out j x (by have := (List.getElem?_eq_some_iff.1 hx).1; have := HNR.out; omega) hx)
      go_wp2
      go_ret
      refine ⟨ret_bool ?_, HM.out.trans HMr.out⟩
      rw [HOK.out]
      show true = rangesB f.rs
      unfold rangesB
      rw [hall.out, HNR.out, decide_eq_true (show 1 ≤ nr by omega), decide_eq_true (show nr ≤ 16 by omega)]
      rfl
   ·subst hk
    clear HMM
    go_wp2_with fail
    go_ret
    exact ⟨ret_bool (by rw [HOK.out]; rfl), HM.out⟩
   ·subst hk
    clear HMM
    go_wp2_with fail
    go_ret
    exact ⟨ret_bool (by rw [HOK.out]; rfl), HM.out⟩
   ·subst hk
    clear HMM
    by_cases hn : (nd : Int) ≤ 1200
    ·have hw3 := hw2 hn
     clear hw2
     go_wp2_with fail
     all_goals go_ret
     all_goals refine ⟨ret_bool ?_, HM.out⟩
     all_goals (rw [HOK.out]; show _ = (decide (f.d.length ≤ 1200) && decide (f.a + f.d.length ≤ topN)); unfold topN; rw [HND.out, Bool.eq_iff_iff]; have := HXA.out; simp_all <;> omega)
    ·clear hw2
     go_wp2_with fail
     all_goals go_ret
     all_goals refine ⟨ret_bool ?_, HM.out⟩
     all_goals (rw [HOK.out]; show _ = (decide (f.d.length ≤ 1200) && decide (f.a + f.d.length ≤ topN)); rw [HND.out, Bool.eq_iff_iff]; simp_all <;> omega)
   ·subst hk
    clear HMM
    clear hw2
    go_wp2_with fail
    all_goals go_ret
    all_goals refine ⟨ret_bool ?_, HM.out⟩
    all_goals (rw [HOK.out]; show _ = (decide (f.d.length ≤ 1200) && decide (1 ≤ f.d.length)); have := HXA.out; have := HXI.out; have := HND.out; rw [Bool.eq_iff_iff]; simp_all <;> omega)
   ·subst hk
    clear HMM
    by_cases hn : (nd : Int) ≤ 1200
    ·have hw3 := hw2 hn
     clear hw2
     go_wp2_with fail
     all_goals go_ret
     all_goals refine ⟨ret_bool ?_, HM.out⟩
     all_goals (rw [HOK.out]; show _ = (decide (f.d.length ≤ 1200) && decide (f.a + f.d.length ≤ topN)); unfold topN; rw [HND.out, Bool.eq_iff_iff]; have := HXA.out; simp_all <;> omega)
    ·clear hw2
     go_wp2_with fail
     all_goals go_ret
     all_goals refine ⟨ret_bool ?_, HM.out⟩
     all_goals (rw [HOK.out]; show _ = (decide (f.d.length ≤ 1200) && decide (f.a + f.d.length ≤ topN)); rw [HND.out, Bool.eq_iff_iff]; simp_all <;> omega)
   ·subst hk
    clear HMM
    go_wp2_with fail
    go_ret
    exact ⟨ret_bool (by rw [HOK.out]; rfl), HM.out⟩
   ·subst hk
    clear HMM
    go_wp2_with fail
    go_ret
    exact ⟨ret_bool (by rw [HOK.out]; rfl), HM.out⟩
   ·subst hk
    clear HMM
    clear hw2
    go_wp2_with fail
    all_goals go_ret
    all_goals refine ⟨ret_bool ?_, HM.out⟩
    all_goals (rw [HOK.out]; show _ = decide (f.a ≤ 1152921504606846976); have := HXA.out; have := HXI.out; have := HND.out; rw [Bool.eq_iff_iff]; simp_all <;> omega)
   ·subst hk
    clear HMM
    go_wp2_with fail
    go_ret
    exact ⟨ret_bool (by rw [HOK.out]; rfl), HM.out⟩
   ·subst hk
    clear HMM
    go_wp2_with fail
    go_ret
    exact ⟨ret_bool (by rw [HOK.out]; rfl), HM.out⟩
   ·subst hk
    clear HMM
    clear hw2
    go_wp2_with fail
    all_goals go_ret
    all_goals refine ⟨ret_bool ?_, HM.out⟩
    all_goals (rw [HOK.out]; show _ = decide (f.a ≤ 1152921504606846976); have := HXA.out; have := HXI.out; have := HND.out; rw [Bool.eq_iff_iff]; simp_all <;> omega)
   ·subst hk
    clear HMM
    clear hw2
    go_wp2_with fail
    all_goals go_ret
    all_goals refine ⟨ret_bool ?_, HM.out⟩
    all_goals (rw [HOK.out]; show _ = (decide (f.a ≤ f.id) && decide (1 ≤ f.d.length) && decide (f.d.length ≤ 20)); have := HXA.out; have := HXI.out; have := HND.out; rw [Bool.eq_iff_iff]; simp_all <;> omega)
   ·subst hk
    clear HMM
    go_wp2_with fail
    go_ret
    exact ⟨ret_bool (by rw [HOK.out]; rfl), HM.out⟩
   ·subst hk
    clear HMM
    clear hw2
    go_wp2_with fail
    all_goals go_ret
    all_goals refine ⟨ret_bool ?_, HM.out⟩
    all_goals (rw [HOK.out]; show _ = decide (f.d.length = 8); have := HXA.out; have := HXI.out; have := HND.out; rw [Bool.eq_iff_iff]; simp_all <;> omega)
   ·subst hk
    clear HMM
    clear hw2
    go_wp2_with fail
    all_goals go_ret
    all_goals refine ⟨ret_bool ?_, HM.out⟩
    all_goals (rw [HOK.out]; show _ = decide (f.d.length = 8); have := HXA.out; have := HXI.out; have := HND.out; rw [Bool.eq_iff_iff]; simp_all <;> omega)
   ·subst hk
    clear HMM
    cases fl
    ·clear hw2
     go_wp2_with fail
     all_goals go_ret
     all_goals refine ⟨ret_bool ?_, HM.out⟩
     all_goals (rw [HOK.out]; show _ = (decide (f.d.length ≤ 1200) && (!f.fl || decide (f.a = 0))); have := HXA.out; rw [HND.out, HFL.out, Bool.eq_iff_iff]; simp_all <;> omega)
    ·clear hw2
     go_wp2_with fail
     all_goals go_ret
     all_goals refine ⟨ret_bool ?_, HM.out⟩
     all_goals (rw [HOK.out]; show _ = (decide (f.d.length ≤ 1200) && (!f.fl || decide (f.a = 0))); have := HXA.out; rw [HND.out, HFL.out, Bool.eq_iff_iff]; simp_all <;> omega)
   ·subst hk
    clear HMM
    go_wp2_with fail
    go_ret
    exact ⟨ret_bool (by rw [HOK.out]; rfl), HM.out⟩
end Go.Proofs.YtolgeghdkoodnaaGreatDoor
