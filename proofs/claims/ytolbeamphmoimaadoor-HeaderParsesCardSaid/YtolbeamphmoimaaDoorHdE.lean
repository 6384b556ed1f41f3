/- bytes.Join of this program: parts one behind the other, with nothing between. -/
import Derived.Test.YtolbeamphmoimaaDoorHdD
namespace Go.Proofs.YtolbeamphmoimaaDoor
open Go.RowKit

/-- A buffer of the call's own that is filled from the front. -/
def Fill (w0 wr : World) (h T : Nat) (acc : List UInt8) : Prop :=
  ∃ cur, Blk wr h cur 5 ∧ T ≤ cur.size ∧ cur.toList.take acc.length = acc.map bv ∧ acc.length ≤ T ∧ Mod (fun _ => False) w0 wr
theorem fill_start (w : World) (cs : Array Value) (T q : Nat) (hT : T ≤ cs.size) : Fill w ((w.alloc (.cells cs 5)).drewN q) w.heap.size T [] :=
  ⟨cs, heap_alloc_new w _, hT, by simp, Nat.zero_le _, ((Mod.refl _ w).alloc _).drewN q⟩
theorem fill_copy {w0 wr : World} {h T : Nat} {acc l : List UInt8} {v : Value} (ty : TypeId) (hh : w0.heap.size ≤ h) (hb : Fill w0 wr h T acc) (hv : Byts w0 v l) (hfit : acc.length + l.length ≤ T) :
    ∃ wr', (Builtin.copy_ #[23, 23] ty #[Lib.tailV h T acc.length, v]).run Tryd.prog wr = .ok (.int .i64 (l.length : Int)) wr' ∧ Fill w0 wr' h T (acc ++ l) := by
  have hs : (Tryd.prog.info? 5).map (·.size) = some 1 := by
    obtain ⟨i0, hi, hz0, hz1, hz2⟩ := info_parts Tryd.info5
    rw [hi]; simp [hz1]
  by_cases hl : l = []
  · subst hl
    obtain ⟨p, cap, rfl, _, _, hn⟩ := byts_val hv
    refine ⟨wr, ?_, by simpa using hb⟩
    exact run_copy_none (P := Tryd.prog) wr 23 23 ty 5 _ p _ _ 0 cap Tryd.underlying23 hs (by simp)
  · obtain ⟨b, off, cap, rfl, h1, h2, h3⟩ := byts_addr hv hl
    have hpos := List.length_pos_iff.2 hl
    obtain ⟨cur, hB, hT, ht, hf, hM⟩ := hb
    have hne : ¬ T = acc.length := by omega
    have hrun := run_copy_row (P := Tryd.prog) wr 23 23 ty 5 h acc.length (T - acc.length) (T - acc.length) ⟨b, off, none⟩ l.length cap cur 5 (l.map bv) Tryd.underlying23 hs hB
      (by rw [List.length_map]; exact (Nat.min_eq_left (by omega)).symm)
      (fun j u hu => by
        rw [List.getElem?_map] at hu
        obtain ⟨x, hx, rfl⟩ := Option.map_eq_some_iff.1 hu
        rw [Addr.add_lit]; exact hM.cellAt (h3 j x hx) (fun h => h)) (by simp; omega) (bv_one _)
    rw [List.length_map] at hrun
    refine ⟨_, by unfold Lib.tailV; rw [if_neg hne]; exact hrun, _, setRow_heap wr h cur _ _ _ hB, ?_, ?_, by simpa using hfit, ?_⟩
    · simp; omega
    · simp only
      rw [ht, ← List.map_append]
      exact List.take_left' (by simp)
    · exact hM.trans' (T := fun k => k = h) ⟨rfl, rfl, rfl, by simp [World.setRow], fun k _ hk => setRow_other wr h k _ hk⟩ (fun i hi e => by omega)

/-- Slices of bytes in memory, one behind the other. -/
def Parts (w : World) (b o : Nat) (ls : List (List UInt8)) : Prop := ∀ i l, ls[i]? = some l → ∃ p cap, w.cell? ⟨b, o + i, none⟩ = some (.slice p l.length cap) ∧ Byts w (.slice p l.length cap) l
theorem Parts.kept {w w' : World} {b o : Nat} {ls : List (List UInt8)} (h : Parts w b o ls) (hM : Mod (fun _ => False) w w') : Parts w' b o ls := by
  intro i l hl
  obtain ⟨p, cap, h1, h2⟩ := h i l hl
  exact ⟨p, cap, hM.cellAt h1 (fun h => h), h2.kept hM (fun _ _ h => h)⟩
theorem flat_snoc (ls : List (List UInt8)) (i : Nat) (l : List UInt8) (h : ls[i]? = some l) : (ls.take (i + 1)).flatten = (ls.take i).flatten ++ l := by
  rw [List.take_add_one, h]; simp
theorem flat_le (ls : List (List UInt8)) (i : Nat) : (ls.take i).flatten.length ≤ ls.flatten.length := by
  have e := congrArg (fun x => x.flatten.length) (List.take_append_drop i ls)
  simp only [List.flatten_append, List.length_append] at e
  omega

set_option maxHeartbeats 2000000 in
set_option maxRecDepth 10000 in
theorem join_any {w : World} {b o c n : Nat} {ls : List (List UInt8)} (hn : ls.length = n) (h2 : 2 ≤ n) (hcap : n ≤ c) (hP : Parts w b o ls) (hlen : (ls.flatten.length : Int) ≤ 140737488355328) (hni : (n : Int) ≤ 1000) :
    Calls Tryd.prog 41 #[.slice (some ⟨b, o, none⟩) n c, .slice none 0 0] w fun e w' => ∃ v', e = .returned v' ∧ OwnW w' w.heap.size v' ls.flatten ∧ Mod (fun _ => False) w w' := by
  have HP := Lib.hid hP
  have HN := Lib.hid hn
  have f0 : ((n : Int) == 0) = false := beq_eq_false_iff_ne.2 (by omega)
  have f1 : ((n : Int) == 1) = false := beq_eq_false_iff_ne.2 (by omega)
  have h2i : (2 : Int) ≤ n := by omega
  obtain ⟨T, hT⟩ : ∃ T, T = ls.flatten.length := ⟨_, rfl⟩
  rw [← hT] at hlen
  have HT := Lib.hid hT
  clear hP hn hT
  go_enter Tryd.func41, Tryd.ntmps41
  go_wp2
  go_loop [5, 44] (fun s5 s44 => ∃ i : Nat, i ≤ n ∧ s44 = .int .i64 i ∧ s5 = .int .i64 ((ls.take i).flatten.length : Nat)) (fun _ i => n - (intOf i).toNat)
  case atStart => exact ⟨0, Nat.zero_le _, rfl, rfl⟩
  case round =>
    obtain ⟨i, hi, rfl, rfl⟩ := hrel
    by_cases hlt : (i : Int) < n
    · have hil : i < ls.length := by have := HN.out; omega
      have e1 : ls[i]? = some ls[i] := List.getElem?_eq_getElem hil
      obtain ⟨p, cap, hc, _⟩ := HP.out i _ e1
      have hs := Lib.hid (flat_snoc ls i _ e1)
      have hle := flat_le ls (i + 1)
      generalize ls[i] = l at *
      rw [hs.out, List.length_append, ← HT.out] at hle
      have HS : Hid ((ls.take (i + 1)).flatten.length = (ls.take i).flatten.length + l.length) := by show _ = _; rw [hs.out, List.length_append]
      have hb : ¬ (9223372036854775807 - ((ls.take i).flatten.length : Int) < (l.length : Int)) := by omega
      have hbs : ((ls.take i).flatten.length : Int) + l.length ≤ 140737488355328 := by omega
      clear e1 hil hs hle
      generalize (ls.take i).flatten.length = acc at *
      generalize l.length = k at *
      go_wp2
      go_round
      case rel => exact ⟨i + 1, by omega, by go_num, by rw [HS.out]; first | rfl | (push_cast; rfl)⟩
      case measure => simp [intOf]; omega
    · obtain rfl : n = i := by omega
      have hall : ls.take n = ls := by rw [← HN.out, List.take_length]
      rw [hall, ← HT.out]
      obtain ⟨cs, hrunM, hle, _⟩ := Lib.run_makeNoZero (P := Tryd.prog) w #[3] 23 5 Tryd.underlying23 T (by omega)
      have hcall : (callFunc 48 #[.int .i64 (T : Int)]).run Tryd.prog w = .ok (.value (.slice (some ⟨w.heap.size, 0, none⟩) T cs.size)) ((w.alloc (.cells cs 5)).drewN 2) := by
        rw [run_callFunc_extern Tryd.func48 (by kernel_rfl) (by kernel_rfl) (by kernel_rfl) (e := Extern.BytealgMakeNoZero.makeNoZero #[3] #[23]) (by kernel_rfl), hrunM]
        rfl
      clear hrunM
      have i0 : (0 : Int) ≤ (T : Int) := by omega
      have i1 : (T : Int) ≤ (cs.size : Int) := by omega
      have B0 := fill_start w cs T 2 hle
      have h0l : 0 < ls.length := by have := HN.out; omega
      obtain ⟨l0, e0⟩ : ∃ l0, ls[0]? = some l0 := ⟨_, List.getElem?_eq_getElem h0l⟩
      obtain ⟨p0, cap0, hc0', hb0⟩ := HP.out 0 _ e0
      have hM0 : Mod (fun _ => False) w ((w.alloc (.cells cs 5)).drewN 2) := ((Mod.refl _ w).alloc _).drewN 2
      have hc0 : ((w.alloc (.cells cs 5)).drewN 2).cell? ⟨b, o, none⟩ = some (.slice p0 l0.length cap0) := hM0.cellAt hc0' (fun h => h)
      have hf0 := flat_snoc ls 0 _ e0
      have hl0 := flat_le ls 1
      rw [hf0, ← HT.out] at hl0
      simp only [List.take_zero, List.flatten_nil, List.nil_append] at hl0 hf0
      obtain ⟨w1, hr1, B1⟩ := fill_copy 3 (Nat.le_refl _) B0 hb0 (by simpa using hl0)
      rw [List.length_nil, Lib.tailV_zero] at hr1
      rw [List.nil_append, ← hf0] at B1
      have HB1 := Lib.hid B1
      have HF0 := Lib.hid (congrArg List.length hf0)
      have hk0 : (l0.length : Int) ≤ T := by omega
      clear B0 B1 hb0 hc0' hM0 hf0 hl0 e0 h0l hle
      generalize l0.length = k0 at *
      go_wp2_with (at_builtin; refine Lib.wpList_copy_run _ rfl _ _ 23 23 rfl _ _ rfl rfl hr1 ?_)
      clear hr1 hc0 hcall
      go_loopw [9, 72] (fun s9 s72 wr => ∃ j : Nat, j + 1 ≤ n ∧ s72 = .int .i64 j ∧ s9 = .int .i64 ((ls.take (j + 1)).flatten.length : Nat) ∧ Hid (Fill w wr w.heap.size T (ls.take (j + 1)).flatten)) (fun _ s72 _ => n - (intOf s72).toNat)
      case atStart => exact ⟨0, by omega, rfl, by rw [HF0.out], HB1⟩
      case round =>
        clear HB1 HF0
        obtain ⟨j, hj, rfl, rfl, HB⟩ := hrel
        by_cases hjn : (j : Int) < ((n - 1 : Nat) : Int)
        · have hil : j + 1 < ls.length := by have := HN.out; omega
          obtain ⟨l1, e1⟩ : ∃ l1, ls[j + 1]? = some l1 := ⟨_, List.getElem?_eq_getElem hil⟩
          obtain ⟨p, cap, hc, hb1⟩ := HP.out (j + 1) _ e1
          have hs := flat_snoc ls (j + 1) _ e1
          have hle := flat_le ls (j + 1 + 1)
          rw [hs, List.length_append, ← HT.out] at hle
          have hcw : wr.cell? ⟨b, o + 1 + j, none⟩ = some (.slice p l1.length cap) := by
            obtain ⟨_, _, _, _, _, hM⟩ := HB.out
            rw [show o + 1 + j = o + (j + 1) by omega]
            exact hM.cellAt hc (fun h => h)
          have z5 : ∀ w, (Go.sizeOf 5).run Tryd.prog w = .ok 1 w := by
            obtain ⟨i0, hi, hz0, hz1, hz2⟩ := info_parts Tryd.info5
            intro w; simp [sizeOf, typeInfo, hi, hz1]
          obtain ⟨w2, hr2, B2⟩ := fill_copy 3 (Nat.le_refl _) HB.out (l := []) (v := .slice none 0 0) (Sl.nil w 1) (by simp only [List.length_nil]; omega)
          rw [List.append_nil] at B2
          obtain ⟨w3, hr3, B3⟩ := fill_copy 3 (Nat.le_refl _) B2 hb1 hle
          rw [← hs] at B3
          have HS : Hid ((ls.take (j + 1 + 1)).flatten.length = (ls.take (j + 1)).flatten.length + l1.length) := by show _ = _; rw [hs, List.length_append]
          have HB3 := Lib.hid B3
          have hsl1 : ∀ W, (Instr.slice 23 (.slice (some ⟨w.heap.size, 0, none⟩) T T) (some (.int .i64 ((ls.take (j + 1)).flatten.length : Int))) none none).run Tryd.prog W = .ok (Lib.tailV w.heap.size T (ls.take (j + 1)).flatten.length) W := fun W => Lib.run_slice_tailV W 23 5 Tryd.underlying23 z5 _ T (ls.take (j + 1)).flatten.length (by omega)
          clear B2 B3 hb1 hc hs e1 hil z5
          generalize (ls.take (j + 1)).flatten.length = q at *
          generalize l1.length = k at *
          simp only [List.length_nil] at hr2
          go_wp2_with (at_builtin; first | refine Lib.wpList_copy_run _ rfl _ _ 23 23 rfl _ _ rfl rfl hr2 ?_ | refine Lib.wpList_copy_run _ rfl _ _ 23 23 rfl _ _ rfl rfl hr3 ?_)
          go_roundw
          case rel => exact ⟨j + 1, by omega, by go_num, by rw [HS.out]; first | rfl | (push_cast; rfl), HB3⟩
          case measure => simp [intOf]; omega
        · obtain rfl : n = j + 1 := by omega
          rw [hall, ← HT.out]
          rw [hall] at HB
          go_wp2
          go_ret
          obtain ⟨cur, hB, hT2, ht, hf, hM⟩ := HB.out
          refine ⟨_, rfl, .inr ⟨w.heap.size, T, cur, by rw [HT.out]; rfl, Nat.le_refl _, hB, by rw [HT.out]; exact Nat.le_refl _, by unfold maxLen; omega, hT2, ht⟩, hM⟩
theorem all_any {w : World} {b o c n : Nat} {ls : List (List UInt8)} (hn : ls.length = n) (h2 : 2 ≤ n) (hcap : n ≤ c) (hP : Parts w b o ls) (hlen : (ls.flatten.length : Int) ≤ 140737488355328) (hni : (n : Int) ≤ 1000) :
    Calls Tryd.prog 24 #[.slice (some ⟨b, o, none⟩) n c] w fun e w' => ∃ v', e = .returned v' ∧ OwnW w' w.heap.size v' ls.flatten ∧ Mod (fun _ => False) w w' := by
  have HJ := Lib.hid (join_any hn h2 hcap hP hlen hni)
  clear hn h2 hcap hP hlen hni
  go_enter Tryd.func24, Tryd.ntmps24
  go_wp2_with (go_at_call 41; refine (HJ.out).mono ?_; rintro e w1 ⟨v, rfl, ho, hM⟩)
  go_ret
  exact ⟨v, rfl, ho, hM⟩
/-- A block of slices that was just laid. -/
theorem parts2 (w : World) (v1 v2 : Value) (l1 l2 : List UInt8) (h1 : Byts w v1 l1) (h2 : Byts w v2 l2) (T : TypeId) : Parts (w.alloc (.cells #[v1, v2] T)) w.heap.size 0 [l1, l2] := by
  have hA : Mod (fun _ => False) w (w.alloc (.cells #[v1, v2] T)) := (Mod.refl _ w).alloc _
  have hB : Blk (w.alloc (.cells #[v1, v2] T)) w.heap.size #[v1, v2] T := Blk.new _ _ _
  obtain ⟨a1, c1, rfl, _⟩ := byts_val h1
  obtain ⟨a2, c2, rfl, _⟩ := byts_val h2
  intro i l hl
  match i, hl with
  | 0, hl => simp at hl; subst hl; exact ⟨_, _, hB.cellAt 0 rfl, h1.kept hA (fun _ _ h => h)⟩
  | 1, hl => simp at hl; subst hl; exact ⟨_, _, hB.cellAt 1 rfl, h2.kept hA (fun _ _ h => h)⟩
  | i + 2, hl => simp at hl
theorem parts3 (w : World) (v1 v2 v3 : Value) (l1 l2 l3 : List UInt8) (h1 : Byts w v1 l1) (h2 : Byts w v2 l2) (h3 : Byts w v3 l3) (T : TypeId) : Parts (w.alloc (.cells #[v1, v2, v3] T)) w.heap.size 0 [l1, l2, l3] := by
  have hA : Mod (fun _ => False) w (w.alloc (.cells #[v1, v2, v3] T)) := (Mod.refl _ w).alloc _
  have hB : Blk (w.alloc (.cells #[v1, v2, v3] T)) w.heap.size #[v1, v2, v3] T := Blk.new _ _ _
  obtain ⟨a1, c1, rfl, _⟩ := byts_val h1
  obtain ⟨a2, c2, rfl, _⟩ := byts_val h2
  obtain ⟨a3, c3, rfl, _⟩ := byts_val h3
  intro i l hl
  match i, hl with
  | 0, hl => simp at hl; subst hl; exact ⟨_, _, hB.cellAt 0 rfl, h1.kept hA (fun _ _ h => h)⟩
  | 1, hl => simp at hl; subst hl; exact ⟨_, _, hB.cellAt 1 rfl, h2.kept hA (fun _ _ h => h)⟩
  | 2, hl => simp at hl; subst hl; exact ⟨_, _, hB.cellAt 2 rfl, h3.kept hA (fun _ _ h => h)⟩
  | i + 3, hl => simp at hl
end Go.Proofs.YtolbeamphmoimaaDoor
