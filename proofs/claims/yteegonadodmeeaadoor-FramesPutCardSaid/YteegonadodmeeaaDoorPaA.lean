/- slices.Grow of nothing, and slices.Concat of slices of bytes. -/
import Derived.Test.YteegonadodmeeaaDoorAppB
import Derived.Deep.AppendSrc
namespace Go.Proofs.YteegonadodmeeaaDoor
open Go.RowKit

theorem zc (n : Nat) : (Builtin.zeroCells (Value.int .u8 0).cells n).toList = (List.replicate n (0 : UInt8)).map bv := by
  apply List.ext_getElem
  · simp [Builtin.zeroCells, Value.cells]
  · intro k h1 h2
    simp [Builtin.zeroCells, Value.cells, bv, Nat.mod_one]
theorem zeros_grow (w : World) (n : Nat) (ty : TypeId) (hn : (n : Int) ≤ 100000) (base : Option Addr) (sLen sCap : Nat) (olds : List Value) (hold : (Builtin.firstCells 1 sLen (.slice base sLen sCap)).run Tryd.prog w.drew = .ok olds.toArray w.drew)
    (hg : sCap < sLen + n) (hfit : Builtin.nextslicecap (sLen + n) sCap ≤ 281474976710656) (hs : (sLen : Int) ≤ 140737488355328) :
    (Builtin.append_ #[23, 3] ty #[.slice base sLen sCap, .int .i64 (n : Int)]).run Tryd.prog w =
      .ok (.slice (some ⟨w.heap.size, 0, none⟩) (sLen + n) (grownCap w (sLen + n) sCap 5))
        (w.drew.alloc (.cells ((olds ++ (List.replicate n (0 : UInt8)).map bv).toArray ++ Builtin.zeroCells (Value.int .u8 0).cells (grownCap w (sLen + n) sCap 5 - (sLen + n))) 5)) := by
  obtain ⟨i0, hi, hz0, hz1, hz2⟩ := info_parts Tryd.info5
  have hw : IntKind.i64.wrap (n : Int) = n := IntWalk.i64_in _ (by omega)
  have h1 : ¬ ((n : Int) < 0) := by omega
  have h2 : ¬ (281474976710656 < (n : Int)) := by omega
  have hn' : ¬ (sLen + n ≤ sCap) := by omega
  have h63' : ¬ (9223372036854775807 < ((sLen : Int) + (n : Int))) := by omega
  have h48' : ¬ (281474976710656 < Builtin.nextslicecap (sLen + n) sCap) := by omega
  by_cases h0 : n = 0
  · have hr : List.replicate n (0 : UInt8) = [] := by rw [h0]; rfl
    have HZ : Hid (n = 0) := h0
    rw [hr]
    clear h0 hr
    simp [Builtin.append_, run_underlying Tryd.underlying23, run_underlying Tryd.underlying3, sizeOf, typeInfo, hi, hz1, hz2, zeroValue, hz0, hw, asInt, asIntOf, h1, h2, hn', h63', h48', Question.forced, hold, newRow, grownCap]
    intro hne; exact absurd HZ.out hne
  · simp [Builtin.append_, run_underlying Tryd.underlying23, run_underlying Tryd.underlying3, sizeOf, typeInfo, hi, hz1, hz2, zeroValue, hz0, hw, asInt, asIntOf, h1, h2, h0, hn', h63', h48', Question.forced, hold, newRow, grownCap]
    congr 2
    apply Array.ext'
    simp [List.append_assoc, zc]
/-- So many zeros, behind nothing: a row of the call's own. -/
theorem wpList_append_nz {w : World} {ops : Array Oper} {rest : List Oper} {o : Oper} {a : Act} {Q : Exit → Act → World → Prop} (hgd : o.guard = none) (s x : Operand)
    (ho : o.op = .call { callee := .builtin .append, args := #[s, x], argTypes := #[23, 3] })
    (n : Nat) (hs : a.eval s = .slice none 0 0) (hx : a.eval x = .int .i64 (n : Int)) (hn : (n : Int) ≤ 100000) (h0 : 0 < n)
    (h : ∀ cap w', n ≤ cap → OwnB w' w.heap.size (.slice (some ⟨w.heap.size, 0, none⟩) 0 cap) [] → Mod (fun _ => False) w w' → wpList Tryd.prog ops Q rest (a.put o.dst (.slice (some ⟨w.heap.size, 0, none⟩) n cap)) w') : wpList Tryd.prog ops Q (o :: rest) a w := by
  have hbig : Builtin.nextslicecap (0 + n) 0 ≤ 281474976710656 := by
    have := growslice_fits (need := 0 + n) (old := 0) (bytes := 1) (by omega) (by omega)
    omega
  have hr := zeros_grow w n o.type hn none 0 0 [] (by simp [Builtin.firstCells]) (by omega) hbig (by omega)
  have hge := grownCap_ge w (0 + n) 0 5
  have hle := grownCap_le_maxLen w (0 + n) 0 5 (by unfold maxLen; omega)
  generalize grownCap w (0 + n) 0 5 = cap at *
  rw [Nat.zero_add] at hr hge
  refine wpList_plain hgd fun K hK => ?_
  unfold Oper.wp
  simp [execOp, ho, resolve, invoke, builtin, hs, hx, hr, Result.andThen]
  refine hK _ _ (h cap _ hge ⟨rfl, .inr ⟨w.heap.size, cap, _, rfl, Nat.le_refl _, heap_alloc_new w.drew _, Nat.zero_le _, hle, ?_, ?_⟩⟩ ⟨rfl, rfl, rfl, by simp, fun k hk _ => (Go.RowKit.Below.heap_alloc w.drew _ k hk)⟩)
  · simp [Builtin.zeroCells, Value.cells]; omega
  · simp
set_option maxRecDepth 10000 in
theorem grow_any (n : Nat) (w : World) (hn : (n : Int) ≤ 100000) (h0 : 0 < n) :
    Calls Tryd.prog 96 #[.slice none 0 0, .int .i64 (n : Int)] w fun e w' => ∃ g cap, e = .returned (.slice (some ⟨g, 0, none⟩) 0 cap) ∧ n ≤ cap ∧ OwnB w' w.heap.size (.slice (some ⟨g, 0, none⟩) 0 cap) [] ∧ Mod (fun _ => False) w w' := by
  have h0i : (0 : Int) < n := by omega
  have H0 := Lib.hid h0
  clear h0
  go_enter Tryd.func96, Tryd.ntmps96
  go_wp2_with (at_builtin; go_must (refine wpList_append_nz rfl _ _ rfl n (by rfl) (by rfl) hn H0.out ?_); intro cap w1 hcap ho hM)
  go_ret
  exact ⟨_, _, rfl, hcap, ho, hM⟩

/-- Slices of bytes in memory, one behind the other. -/
def Parts (w : World) (b o : Nat) (ls : List (List UInt8)) : Prop := ∀ i l, ls[i]? = some l → ∃ p cap, w.cell? ⟨b, o + i, none⟩ = some (.slice p l.length cap) ∧ Byts w (.slice p l.length cap) l
theorem Parts.kept {w w' : World} {b o : Nat} {ls : List (List UInt8)} (h : Parts w b o ls) (hM : Mod (fun _ => False) w w') : Parts w' b o ls := by
  intro i l hl
  obtain ⟨p, cap, h1, h2⟩ := h i l hl
  exact ⟨p, cap, hM.cellAt h1 (fun h => h), h2.kept hM (fun _ _ h => h)⟩
theorem flat_snoc (ls : List (List UInt8)) (i : Nat) (l : List UInt8) (h : ls[i]? = some l) : (ls.take (i + 1)).flatten = (ls.take i).flatten ++ l := by
  rw [List.take_add_one, h]; simp
theorem flat_le (ls : List (List UInt8)) (i : Nat) : (ls.take i).flatten.length ≤ ls.flatten.length := by
  have e := congrArg (fun x => x.flatten.length) (List.take_append_drop i ls)
  simp only [List.flatten_append, List.length_append] at e
  omega


set_option maxHeartbeats 2000000 in
set_option maxRecDepth 10000 in
theorem concat_any {w : World} {b o c n : Nat} {ls : List (List UInt8)} (hn : ls.length = n) (_hcap : n ≤ c) (hP : Parts w b o ls) (hlen : (ls.flatten.length : Int) ≤ 100000) (hpos : 0 < ls.flatten.length) (hni : (n : Int) ≤ 1000) :
    Calls Tryd.prog 80 #[.slice (some ⟨b, o, none⟩) n c] w fun e w' => ∃ v', e = .returned v' ∧ OwnB w' w.heap.size v' ls.flatten ∧ Mod (fun _ => False) w w' := by
  have HP := Lib.hid hP
  have HN := Lib.hid hn
  have HPos := Lib.hid hpos
  obtain ⟨T, hT⟩ : ∃ T, T = ls.flatten.length := ⟨_, rfl⟩
  rw [← hT] at hlen
  have HT := Lib.hid hT
  clear hP hn hT hpos
  go_enter Tryd.func80, Tryd.ntmps80
  go_wp2
  go_loop [3, 11, 5] (fun s3 s11 s5 => ∃ i : Nat, i ≤ n ∧ s11 = .int .i64 i ∧ s3 = .int .i64 ((ls.take i).flatten.length : Nat)) (fun _ i _ => n - (intOf i).toNat)
  case atStart => exact ⟨0, Nat.zero_le _, rfl, rfl⟩
  case round =>
    obtain ⟨i, hi, rfl, rfl⟩ := hrel
    by_cases hlt : (i : Int) < n
    · have hil : i < ls.length := by have := HN.out; omega
      have e1 : ls[i]? = some ls[i] := List.getElem?_eq_getElem hil
      obtain ⟨p, cap, hc, _⟩ := HP.out i _ e1
      have hs := Lib.hid (flat_snoc ls i _ e1)
      have hle := flat_le ls (i + 1)
      generalize ls[i] = l at *
      rw [hs.out, List.length_append, ← HT.out] at hle
      have HS : Hid ((ls.take (i + 1)).flatten.length = (ls.take i).flatten.length + l.length) := by show _ = _; rw [hs.out, List.length_append]
      have hbs : ((ls.take i).flatten.length : Int) + l.length ≤ 100000 := by omega
      have hge : ¬ (((ls.take i).flatten.length : Int) + l.length < 0) := by omega
      clear e1 hil hs hle
      generalize (ls.take i).flatten.length = acc at *
      generalize l.length = k at *
      go_wp2
      go_round
      case rel => exact ⟨i + 1, by omega, by go_num, by rw [HS.out]; first | rfl | (push_cast; rfl)⟩
      case measure => simp [intOf]; omega
    · obtain rfl : n = i := by omega
      have hall : ls.take n = ls := by rw [← HN.out, List.take_length]
      rw [hall, ← HT.out]
      have HG := Lib.hid (grow_any T w hlen (by have := HPos.out; have := HT.out; omega))
      go_wp2_with (go_at_call 96; refine (HG.out).mono ?_; rintro e w1 ⟨g, cap, rfl, hcap', ho, hM⟩)
      have HO := Lib.hid ho
      have HM := Lib.hid hM
      clear ho hM
      go_loopw [6, 8, 27] (fun s6 s8 s27 wr => ∃ j : Nat, j ≤ n ∧ s27 = .int .i64 j ∧ ∃ ap cp, s6 = .slice ap ((ls.take j).flatten.length) cp ∧ Hid (OwnB wr w.heap.size (.slice ap ((ls.take j).flatten.length) cp) (ls.take j).flatten ∧ Mod (fun _ => False) w wr)) (fun _ _ s27 _ => n - (intOf s27).toNat)
      case atStart => exact ⟨0, by omega, rfl, _, _, rfl, ⟨HO.out, HM.out⟩⟩
      case round =>
        clear HO HM HG
        obtain ⟨j, hj, rfl, ap, cp, rfl, HR⟩ := hrel
        by_cases hjn : (j : Int) < n
        · have hil : j < ls.length := by have := HN.out; omega
          have e1 : ls[j]? = some ls[j] := List.getElem?_eq_getElem hil
          obtain ⟨p, cap1, hc, hby⟩ := HP.out j _ e1
          have hs := Lib.hid (flat_snoc ls j _ e1)
          have hle := flat_le ls (j + 1)
          generalize ls[j] = l at *
          rw [hs.out, List.length_append, ← HT.out] at hle
          have HS : Hid ((ls.take (j + 1)).flatten.length = (ls.take j).flatten.length + l.length) := by show _ = _; rw [hs.out, List.length_append]
          have HB := Lib.hid (byts_kept hby HR.out.2)
          have hcw : wr.cell? ⟨b, o + j, none⟩ = some (.slice p l.length cap1) := HR.out.2.cellAt hc (fun h => h)
          have hb2 : Hid (((ls.take (j + 1)).flatten.length : Int) ≤ 140737488355328) := by show _ ≤ _; rw [HS.out]; omega
          clear e1 hil hle hby hc
          generalize (ls.take j).flatten = acc at *
          obtain ⟨acc', hacc⟩ : ∃ x, x = (ls.take (j + 1)).flatten := ⟨_, rfl⟩
          rw [← hacc] at hs HS hb2
          have HACC := Lib.hid hacc
          clear hacc
          go_wp2_with (at_builtin; go_must (refine wpList_append_b rfl _ _ rfl (.slice ap acc.length cp) acc w.heap.size acc'.length (by rfl) HR.out.1 _ l (by rfl) HB.out acc' hs.out HS.out.symm hb2.out HR.out.2.size ?_); intro ap2 cp2 w2 hA)
          go_roundw
          case rel => exact ⟨j + 1, by omega, by go_num, ap2, cp2, by rw [← HACC.out], ⟨by rw [← HACC.out]; exact hA.own, hA.modF HR.out.2 (Nat.le_refl _)⟩⟩
          case measure => simp [intOf]; omega
        · obtain rfl : n = j := by omega
          rw [hall] at HR ⊢
          obtain ⟨F, hF⟩ : ∃ F, F = ls.flatten := ⟨_, rfl⟩
          rw [← hF] at HR ⊢
          have HF := Lib.hid hF
          clear hF
          go_wp2
          go_ret
          refine ⟨_, rfl, ?_, HR.out.2⟩
          rw [← HF.out]
          exact HR.out.1
end Go.Proofs.YteegonadodmeeaaDoor
