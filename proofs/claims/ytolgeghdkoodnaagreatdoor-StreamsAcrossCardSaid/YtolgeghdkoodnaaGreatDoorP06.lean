/- Parts of the proof: GaJ PaA GaK GaL. -/
import Derived.Test.YtolgeghdkoodnaaGreatDoorP02
import Derived.Test.YtolgeghdkoodnaaGreatDoorP04
import Derived.Deep.AppendSrc
set_option maxRecDepth 100000
namespace Go.Proofs.YtolgeghdkoodnaaGreatDoor
open Go.RowKit
theorem putL_len (n : Nat) : (putL n).length ≤ 8 := by rw [putL_length]; exact szN_le n
def uv (n : Nat) : Value := .int .u64 (n : Int)
def Ints (w : World) (v : Value) (ns : List Nat) : Prop := Sl w 1 v ns.length (ns.map uv)
def intsL (ns : List Nat) : List UInt8 := ns.flatMap putL
theorem intsL_len (ns : List Nat) : (intsL ns).length ≤ 8 * ns.length := by
 unfold intsL
 induction ns with
 | nil => simp
 | cons x l ih => have := putL_len x; rw [List.flatMap_cons, List.length_append, List.length_cons]; omega
theorem ints_addr {w : World} {v : Value} {ns : List Nat} (h : Ints w v ns) (hx : ns ≠ []) :
  ∃ b off cap, v = .slice (some ⟨b, off, none⟩) ns.length cap ∧ ns.length ≤ cap ∧ cap ≤ maxLen ∧ ∀ (j n : Nat), ns[j]? = some n → w.cell? ⟨b, off + j, none⟩ = some (.int .u64 (n : Int)) := by
 obtain ⟨b, off, cap, h1, h2, h3, h4⟩ := Sl.addr h (by simpa using hx)
 exact ⟨b, off, cap, h1, h2, h3, fun j n hj => h4 j (uv n) (by simp [hj])⟩
theorem ints_lit (w : World) (ns : List Nat) (cs : Array Value) (n : Nat) (T : TypeId) (hc : cs = (ns.map uv).toArray) (hn : ns.length = n) (hm : n ≤ maxLen) : Ints (w.alloc (.cells cs T)) (.slice (some ⟨w.heap.size, 0, none⟩) n n) ns := by
 subst hc hn
 refine ⟨by simp, some ⟨w.heap.size, 0, none⟩, ns.length, rfl, Nat.le_refl _, hm, fun e => by simp at e, fun j u hu => ⟨w.heap.size, 0, rfl, ?_⟩⟩
 rw [Nat.zero_add]
 exact (Blk.new w (ns.map uv).toArray T).cellAt j (by simpa using hu)
set_option maxHeartbeats 2000000 in
set_option maxRecDepth 10000 in
theorem ints_any {w : World} {v : Value} {ns : List Nat} (hT : Tabs w) (hv : Ints w v ns) (hn : (ns.length : Int) ≤ 1000) :
  Calls Tryz.prog 65 #[v] w fun e w' => ∃ v', e = .returned v' ∧ OwnB w' w.heap.size v' (intsL ns) ∧ Mod (fun _ => False) w w' := by
 have HV := Lib.hid hv
 have HT := Lib.hid hT
 obtain ⟨a, cap, rfl, hcap, _⟩ := Sl.val hv
 obtain ⟨n, hnn⟩ : ∃ n, n = ns.length := ⟨_, rfl⟩
 rw [← hnn] at hn hcap ⊢
 have HN := Lib.hid hnn
 have hnc : (n : Int) ≤ cap := by omega
 clear hv hT hcap hnn
 go_enter Tryz.func65, Tryz.ntmps65
 go_wp2
 go_loopw [3, 8] (fun s3 s8 wr => ∃ k : Nat, k ≤ n ∧ s8 = .int .i64 k ∧ ∃ ap cp, s3 = .slice ap (intsL (ns.take k)).length cp ∧ Hid (OwnB wr w.heap.size (.slice ap (intsL (ns.take k)).length cp) (intsL (ns.take k)) ∧ Mod (fun _ => False) w wr)) (fun _ s8 _ => n - (intOf s8).toNat)
 case atStart => exact ⟨0, Nat.zero_le _, rfl, none, 0, rfl, ⟨OwnB.nil _ _, Mod.refl _ _⟩⟩
 case round =>
  obtain ⟨k, hk, rfl, ap, cp, rfl, HR⟩ := hrel
  by_cases hkn : (k : Int) < n
  ·have hkl : k < ns.length := by have := HN.out; omega
   have hs : ns[k]? = some ns[k] := List.getElem?_eq_getElem hkl
   generalize ns[k] = x at hs
   obtain ⟨b, off, cp0, hv, _, _, hcs⟩ := ints_addr HV.out (by rintro rfl; simp at hkl)
   simp only [Value.slice.injEq] at hv
   obtain ⟨rfl, _, rfl⟩ := hv
   have g0 := HR.out.2.cellAt (hcs k x hs) (fun h => h)
   obtain ⟨acc, hacc⟩ : ∃ l, l = intsL (ns.take k) := ⟨_, rfl⟩
   rw [← hacc] at HR ⊢
   obtain ⟨L, hL⟩ : ∃ l, l = intsL (ns.take (k + 1)) := ⟨_, rfl⟩
   have HL : Hid (L = acc ++ putL x) := by show _ = _; rw [hL, hacc, take_snoc ns k x hs]; simp [intsL]
   have HLEN : Hid ((L.length : Int) ≤ 140737488355328) := by
    show _ ≤ _
    have := intsL_len (ns.take (k + 1))
    rw [← hL] at this
    have h2 : (ns.take (k + 1)).length ≤ 1000 := by rw [List.length_take]; omega
    omega
   have HLL := Lib.hid hL
   clear hcs hs hkl hacc hL
   go_wp2_with fail
   refine (put_any x wr (HR.out.2.tabs HT.out (fun h => h))).mono ?_
   rintro e w2 ⟨v2, rfl, ho2, hM2⟩
   have HB2 := Lib.hid ho2.byts
   obtain ⟨a2, c2, rfl, _⟩ := byts_val ho2.byts
   have HM2 := Lib.hid hM2
   have HLS : Hid (acc.length + (putL x).length = L.length) := by show _ = _; rw [HL.out]; simp
   clear ho2 hM2
   generalize hpx : putL x = px at *
   clear hpx
   generalize hla : acc.length = la at *
   generalize hlp : px.length = lp at *
   generalize hll : L.length = ll at *
   have HLA := Lib.hid hla
   have HLP := Lib.hid hlp
   have HLLn := Lib.hid hll
   clear hla hlp hll
   go_wp2_with (at_builtin; go_must (refine wpList_append_b rfl (.tmp 12) (.tmp 14) (by rfl) (.slice ap la cp) acc w.heap.size ll (by rfl) (HR.out.1.keptF HM2.out) _ px (by rfl) HB2.out L HL.out (by rw [HLA.out, HLP.out]; exact HLS.out) HLEN.out (HR.out.2.trans HM2.out).size ?_); intro ap5 cp5 W5 hA5)
   go_roundw
   case rel => exact ⟨k + 1, by omega, by go_num, ap5, cp5, by rw [← HLL.out, HLLn.out], by rw [← HLL.out, HLLn.out]; exact ⟨hA5.own, hA5.modF (HR.out.2.trans HM2.out) (Nat.le_refl _)⟩⟩
   case measure => simp [intOf]; omega
  ·have hkn' : k = n := by omega
   have hall : ns.take k = ns := List.take_of_length_le (by have := HN.out; omega)
   rw [hall] at HR ⊢
   obtain ⟨L, hL⟩ : ∃ l, l = intsL ns := ⟨_, rfl⟩
   rw [← hL] at HR ⊢
   have HLL := Lib.hid hL
   clear hall hL
   generalize L.length = ll at *
   go_wp2
   go_ret
   exact ⟨_, rfl, by rw [← HLL.out]; exact HR.out.1, HR.out.2⟩
set_option maxRecDepth 10000 in
theorem data_any {w : World} {v : Value} {l : List UInt8} (hT : Tabs w) (hv : Byts w v l) (hn : (l.length : Int) ≤ 100000) :
  Calls Tryz.prog 66 #[v] w fun e w' => ∃ v', e = .returned v' ∧ OwnB w' w.heap.size v' (dataL l) ∧ Mod (fun _ => False) w w' := by
 have HV := Lib.hid hv
 have HT := Lib.hid hT
 obtain ⟨a, cap, rfl, hcap, _⟩ := byts_val hv
 have HP := Lib.hid (put_any l.length w hT)
 have hw : IntKind.u64.wrap (l.length : Int) = l.length := IntWalk.u64_in _ (by omega)
 have HD : Hid (dataL l = putL l.length ++ l) := rfl
 have HL8 := Lib.hid (putL_len l.length)
 obtain ⟨n, hnn⟩ : ∃ n, n = l.length := ⟨_, rfl⟩
 rw [← hnn] at hn hcap HP HD HL8 HV hw ⊢
 have HN := Lib.hid hnn
 clear hv hT hnn
 go_enter Tryz.func66, Tryz.ntmps66
 go_wp2_with fail
 refine (HP.out).mono ?_
 rintro e w1 ⟨v1, rfl, ho1, hM1⟩
 have HO1 := Lib.hid ho1
 have HM1 := Lib.hid hM1
 have HV1 := Lib.hid (byts_kept HV.out hM1)
 obtain ⟨a1, c1, rfl, _⟩ := byts_val ho1.byts
 clear ho1 hM1 HP
 generalize putL n = p at *
 generalize hlp : p.length = lp at *
 have HLP := Lib.hid hlp
 have HLL : Hid (((lp + n : Nat) : Int) ≤ 140737488355328) := by show _ ≤ _; have := HL8.out; omega
 clear hlp
 go_wp2_with (at_builtin; go_must (refine wpList_append_b rfl (.tmp 6) (.tmp 7) (by rfl) (.slice a1 lp c1) p w.heap.size (lp + n) (by rfl) HO1.out _ l (by rfl) HV1.out (p ++ l) rfl (by rw [HLP.out, HN.out]) HLL.out HM1.out.size ?_); intro ap5 cp5 W5 hA5)
 go_ret
 exact ⟨_, rfl, by rw [HD.out]; exact hA5.own, hA5.modF HM1.out (Nat.le_refl _)⟩
end Go.Proofs.YtolgeghdkoodnaaGreatDoor
set_option maxRecDepth 100000
namespace Go.Proofs.YtolgeghdkoodnaaGreatDoor
open Go.RowKit
theorem zc (n : Nat) : (Builtin.zeroCells (Value.int .u8 0).cells n).toList = (List.replicate n (0 : UInt8)).map bv := by
 apply List.ext_getElem
 ·simp [Builtin.zeroCells, Value.cells]
 ·intro k h1 h2
  simp [Builtin.zeroCells, Value.cells, bv, Nat.mod_one]
theorem zeros_grow (w : World) (n : Nat) (ty : TypeId) (hn : (n : Int) ≤ 100000) (base : Option Addr) (sLen sCap : Nat) (olds : List Value) (hold : (Builtin.firstCells 1 sLen (.slice base sLen sCap)).run Tryz.prog w.drew = .ok olds.toArray w.drew)
  (hg : sCap < sLen + n) (hfit : Builtin.nextslicecap (sLen + n) sCap ≤ 281474976710656) (hs : (sLen : Int) ≤ 140737488355328) :
  (Builtin.append_ #[42, 3] ty #[.slice base sLen sCap, .int .i64 (n : Int)]).run Tryz.prog w =
   .ok (.slice (some ⟨w.heap.size, 0, none⟩) (sLen + n) (grownCap w (sLen + n) sCap 5))
    (w.drew.alloc (.cells ((olds ++ (List.replicate n (0 : UInt8)).map bv).toArray ++ Builtin.zeroCells (Value.int .u8 0).cells (grownCap w (sLen + n) sCap 5 - (sLen + n))) 5)) := by
 obtain ⟨i0, hi, hz0, hz1, hz2⟩ := info_parts Tryz.info5
 have hw : IntKind.i64.wrap (n : Int) = n := IntWalk.i64_in _ (by omega)
 have h1 : ¬ ((n : Int) < 0) := by omega
 have h2 : ¬ (281474976710656 < (n : Int)) := by omega
 have hn' : ¬ (sLen + n ≤ sCap) := by omega
 have h63' : ¬ (9223372036854775807 < ((sLen : Int) + (n : Int))) := by omega
 have h48' : ¬ (281474976710656 < Builtin.nextslicecap (sLen + n) sCap) := by omega
 by_cases h0 : n = 0
 ·have hr : List.replicate n (0 : UInt8) = [] := by rw [h0]; rfl
  have HZ : Hid (n = 0) := h0
  rw [hr]
  clear h0 hr
  simp [Builtin.append_, run_underlying Tryz.underlying42, run_underlying Tryz.underlying3, sizeOf, typeInfo, hi, hz1, hz2, zeroValue, hz0, hw, asInt, asIntOf, h1, h2, hn', h63', h48', Question.forced, hold, newRow, grownCap]
  intro hne; exact absurd HZ.out hne
 ·simp [Builtin.append_, run_underlying Tryz.underlying42, run_underlying Tryz.underlying3, sizeOf, typeInfo, hi, hz1, hz2, zeroValue, hz0, hw, asInt, asIntOf, h1, h2, h0, hn', h63', h48', Question.forced, hold, newRow, grownCap]
  congr 2
  apply Array.ext'
  simp [List.append_assoc, zc]
theorem wpList_append_nz {w : World} {ops : Array Oper} {rest : List Oper} {o : Oper} {a : Act} {Q : Exit → Act → World → Prop} (hgd : o.guard = none) (s x : Operand)
  (ho : o.op = .call { callee := .builtin .append, args := #[s, x], argTypes := #[42, 3] })
  (n : Nat) (hs : a.eval s = .slice none 0 0) (hx : a.eval x = .int .i64 (n : Int)) (hn : (n : Int) ≤ 100000) (h0 : 0 < n)
  (h : ∀ cap w', n ≤ cap → OwnB w' w.heap.size (.slice (some ⟨w.heap.size, 0, none⟩) 0 cap) [] → Mod (fun _ => False) w w' → wpList Tryz.prog ops Q rest (a.put o.dst (.slice (some ⟨w.heap.size, 0, none⟩) n cap)) w') : wpList Tryz.prog ops Q (o :: rest) a w := by
 have hbig : Builtin.nextslicecap (0 + n) 0 ≤ 281474976710656 := by
  have := growslice_fits (need := 0 + n) (old := 0) (bytes := 1) (by omega) (by omega)
  omega
 have hr := zeros_grow w n o.type hn none 0 0 [] (by simp [Builtin.firstCells]) (by omega) hbig (by omega)
 have hge := grownCap_ge w (0 + n) 0 5
 have hle := grownCap_le_maxLen w (0 + n) 0 5 (by unfold maxLen; omega)
 generalize grownCap w (0 + n) 0 5 = cap at *
 rw [Nat.zero_add] at hr hge
 refine wpList_plain hgd fun K hK => ?_
 unfold Oper.wp
 simp [execOp, ho, resolve, invoke, builtin, hs, hx, hr, Result.andThen]
 refine hK _ _ (h cap _ hge ⟨rfl, .inr ⟨w.heap.size, cap, _, rfl, Nat.le_refl _, heap_alloc_new w.drew _, Nat.zero_le _, hle, ?_, ?_⟩⟩ ⟨rfl, rfl, rfl, by simp, fun k hk _ => (Go.RowKit.Below.heap_alloc w.drew _ k hk)⟩)
 ·simp [Builtin.zeroCells, Value.cells]; omega
 ·simp
set_option maxRecDepth 10000 in
theorem grow_any (n : Nat) (w : World) (hn : (n : Int) ≤ 100000) (h0 : 0 < n) :
  Calls Tryz.prog 170 #[.slice none 0 0, .int .i64 (n : Int)] w fun e w' => ∃ g cap, e = .returned (.slice (some ⟨g, 0, none⟩) 0 cap) ∧ n ≤ cap ∧ OwnB w' w.heap.size (.slice (some ⟨g, 0, none⟩) 0 cap) [] ∧ Mod (fun _ => False) w w' := by
 have h0i : (0 : Int) < n := by omega
 have H0 := Lib.hid h0
 clear h0
 go_enter Tryz.func170, Tryz.ntmps170
 go_wp2_with (at_builtin; go_must (refine wpList_append_nz rfl _ _ rfl n (by rfl) (by rfl) hn H0.out ?_); intro cap w1 hcap ho hM)
 go_ret
 exact ⟨_, _, rfl, hcap, ho, hM⟩
def Parts (w : World) (b o : Nat) (ls : List (List UInt8)) : Prop := ∀ i l, ls[i]? = some l → ∃ p cap, w.cell? ⟨b, o + i, none⟩ = some (.slice p l.length cap) ∧ Byts w (.slice p l.length cap) l
theorem Parts.kept {w w' : World} {b o : Nat} {ls : List (List UInt8)} (h : Parts w b o ls) (hM : Mod (fun _ => False) w w') : Parts w' b o ls := by
 intro i l hl
 obtain ⟨p, cap, h1, h2⟩ := h i l hl
 exact ⟨p, cap, hM.cellAt h1 (fun h => h), h2.kept hM (fun _ _ h => h)⟩
theorem flat_snoc (ls : List (List UInt8)) (i : Nat) (l : List UInt8) (h : ls[i]? = some l) : (ls.take (i + 1)).flatten = (ls.take i).flatten ++ l := by
 rw [List.take_add_one, h]; simp
theorem flat_le (ls : List (List UInt8)) (i : Nat) : (ls.take i).flatten.length ≤ ls.flatten.length := by
 have e := congrArg (fun x => x.flatten.length) (List.take_append_drop i ls)
 simp only [List.flatten_append, List.length_append] at e
 omega
set_option maxHeartbeats 2000000 in
set_option maxRecDepth 10000 in
theorem concat_any {w : World} {b o c n : Nat} {ls : List (List UInt8)} (hn : ls.length = n) (_hcap : n ≤ c) (hP : Parts w b o ls) (hlen : (ls.flatten.length : Int) ≤ 100000) (hpos : 0 < ls.flatten.length) (hni : (n : Int) ≤ 1000) :
  Calls Tryz.prog 133 #[.slice (some ⟨b, o, none⟩) n c] w fun e w' => ∃ v', e = .returned v' ∧ OwnB w' w.heap.size v' ls.flatten ∧ Mod (fun _ => False) w w' := by
 have HP := Lib.hid hP
 have HN := Lib.hid hn
 have HPos := Lib.hid hpos
 obtain ⟨T, hT⟩ : ∃ T, T = ls.flatten.length := ⟨_, rfl⟩
 rw [← hT] at hlen
 have HT := Lib.hid hT
 clear hP hn hT hpos
 go_enter Tryz.func133, Tryz.ntmps133
 go_wp2
 go_loop [3, 11, 5] (fun s3 s11 s5 => ∃ i : Nat, i ≤ n ∧ s11 = .int .i64 i ∧ s3 = .int .i64 ((ls.take i).flatten.length : Nat)) (fun _ i _ => n - (intOf i).toNat)
 case atStart => exact ⟨0, Nat.zero_le _, rfl, rfl⟩
 case round =>
  obtain ⟨i, hi, rfl, rfl⟩ := hrel
  by_cases hlt : (i : Int) < n
  ·have hil : i < ls.length := by have := HN.out; omega
   have e1 : ls[i]? = some ls[i] := List.getElem?_eq_getElem hil
   obtain ⟨p, cap, hc, _⟩ := HP.out i _ e1
   have hs := Lib.hid (flat_snoc ls i _ e1)
   have hle := flat_le ls (i + 1)
   generalize ls[i] = l at *
   rw [hs.out, List.length_append, ← HT.out] at hle
   have HS : Hid ((ls.take (i + 1)).flatten.length = (ls.take i).flatten.length + l.length) := by show _ = _; rw [hs.out, List.length_append]
   have hbs : ((ls.take i).flatten.length : Int) + l.length ≤ 100000 := by omega
   have hge : ¬ (((ls.take i).flatten.length : Int) + l.length < 0) := by omega
   clear e1 hil hs hle
   generalize (ls.take i).flatten.length = acc at *
   generalize l.length = k at *
   go_wp2
   go_round
   case rel => exact ⟨i + 1, by omega, by go_num, by rw [HS.out]; first | rfl | (push_cast; rfl)⟩
   case measure => simp [intOf]; omega
  ·obtain rfl : n = i := by omega
   have hall : ls.take n = ls := by rw [← HN.out, List.take_length]
   rw [hall, ← HT.out]
   have HG := Lib.hid (grow_any T w hlen (by have := HPos.out; have := HT.out; omega))
   go_wp2_with (go_at_call 170; refine (HG.out).mono ?_; rintro e w1 ⟨g, cap, rfl, hcap', ho, hM⟩)
   have HO := Lib.hid ho
   have HM := Lib.hid hM
   clear ho hM
   go_loopw [6, 8, 27] (fun s6 s8 s27 wr => ∃ j : Nat, j ≤ n ∧ s27 = .int .i64 j ∧ ∃ ap cp, s6 = .slice ap ((ls.take j).flatten.length) cp ∧ Hid (OwnB wr w.heap.size (.slice ap ((ls.take j).flatten.length) cp) (ls.take j).flatten ∧ Mod (fun _ => False) w wr)) (fun _ _ s27 _ => n - (intOf s27).toNat)
   case atStart => exact ⟨0, by omega, rfl, _, _, rfl, ⟨HO.out, HM.out⟩⟩
   case round =>
    clear HO HM HG
    obtain ⟨j, hj, rfl, ap, cp, rfl, HR⟩ := hrel
    by_cases hjn : (j : Int) < n
    ·have hil : j < ls.length := by have := HN.out; omega
     have e1 : ls[j]? = some ls[j] := List.getElem?_eq_getElem hil
     obtain ⟨p, cap1, hc, hby⟩ := HP.out j _ e1
     have hs := Lib.hid (flat_snoc ls j _ e1)
     have hle := flat_le ls (j + 1)
     generalize ls[j] = l at *
     rw [hs.out, List.length_append, ← HT.out] at hle
     have HS : Hid ((ls.take (j + 1)).flatten.length = (ls.take j).flatten.length + l.length) := by show _ = _; rw [hs.out, List.length_append]
     have HB := Lib.hid (byts_kept hby HR.out.2)
     have hcw : wr.cell? ⟨b, o + j, none⟩ = some (.slice p l.length cap1) := HR.out.2.cellAt hc (fun h => h)
     have hb2 : Hid (((ls.take (j + 1)).flatten.length : Int) ≤ 140737488355328) := by show _ ≤ _; rw [HS.out]; omega
     clear e1 hil hle hby hc
     generalize (ls.take j).flatten = acc at *
     obtain ⟨acc', hacc⟩ : ∃ x, x = (ls.take (j + 1)).flatten := ⟨_, rfl⟩
     rw [← hacc] at hs HS hb2
     have HACC := Lib.hid hacc
     clear hacc
     go_wp2_with (at_builtin; go_must (refine wpList_append_b rfl _ _ rfl (.slice ap acc.length cp) acc w.heap.size acc'.length (by rfl) HR.out.1 _ l (by rfl) HB.out acc' hs.out HS.out.symm hb2.out HR.out.2.size ?_); intro ap2 cp2 w2 hA)
     go_roundw
     case rel => exact ⟨j + 1, by omega, by go_num, ap2, cp2, by rw [← HACC.out], ⟨by rw [← HACC.out]; exact hA.own, hA.modF HR.out.2 (Nat.le_refl _)⟩⟩
     case measure => simp [intOf]; omega
    ·obtain rfl : n = j := by omega
     rw [hall] at HR ⊢
     obtain ⟨F, hF⟩ : ∃ F, F = ls.flatten := ⟨_, rfl⟩
     rw [← hF] at HR ⊢
     have HF := Lib.hid hF
     clear hF
     go_wp2
     go_ret
     refine ⟨_, rfl, ?_, HR.out.2⟩
     rw [← HF.out]
     exact HR.out.1
end Go.Proofs.YtolgeghdkoodnaaGreatDoor
set_option maxRecDepth 100000
namespace Go.Proofs.YtolgeghdkoodnaaGreatDoor
open Go.RowKit
def Puts (fn : Nat) (w : World) (f : Fr) (vd vr : Value) (L : List UInt8) : Prop := Calls Tryz.prog fn #[frV f vd vr] w fun e w' => ∃ v, e = .returned v ∧ Byts w' v L ∧ Mod (fun _ => False) w w'
theorem ints_lit2 (w : World) (o : Obj) (ns : List Nat) (cs : Array Value) (n : Nat) (T : TypeId) (hc : cs = (ns.map uv).toArray) (hn : ns.length = n) (hm : n ≤ maxLen) : Ints ((w.alloc o).alloc (.cells cs T)) (.slice (some ⟨w.heap.size + 1, 0, none⟩) n n) ns := by
 have h := ints_lit (w.alloc o) ns cs n T hc hn hm
 rw [show (w.alloc o).heap.size = w.heap.size + 1 by simp] at h
 exact h
set_option maxRecDepth 10000 in
theorem put10 {w : World} {f : Fr} {vd vr : Value} (hT : Tabs w) : Puts 101 w f vd vr (putL f.a) := by
 unfold Puts
 rw [show putL f.a = intsL [f.a] by simp [intsL]]
 have e2 : (frC f vd vr)[2]? = some (.int .u64 (f.a : Int)) := rfl
 have hM := ((Mod.refl (fun _ => False) w).alloc (.cells (frC f vd vr) 52)).alloc (.cells #[.int .u64 (f.a : Int)] 26)
 have HI := Lib.hid (ints_any (hM.tabs hT (fun h => h)) (ints_lit2 w (.cells (frC f vd vr) 52) [f.a] #[.int .u64 (f.a : Int)] 1 26 rfl rfl (by decide)) (by simp))
 have HM := Lib.hid hM
 unfold frV
 clear hT hM
 generalize frC f vd vr = C at *
 generalize intsL [f.a] = L at *
 generalize (f.a : Int) = xa at *
 go_enter Tryz.func101, Tryz.ntmps101
 go_wp2_with fail
 refine (HI.out).mono ?_
 rintro e w1 ⟨v, rfl, ho, hM1⟩
 have HO := Lib.hid ho.byts
 obtain ⟨a1, c1, rfl, _⟩ := byts_val ho.byts
 have HM1 := Lib.hid hM1
 clear ho hM1 HI
 generalize L.length = n at *
 go_wp2_with fail
 go_ret
 exact ⟨_, rfl, HO.out, HM.out.trans HM1.out⟩
set_option maxRecDepth 10000 in
theorem put11 {w : World} {f : Fr} {vd vr : Value} (hT : Tabs w) : Puts 102 w f vd vr (putL f.id ++ putL f.a) := by
 unfold Puts
 rw [show putL f.id ++ putL f.a = intsL [f.id, f.a] by simp [intsL]]
 have e1 : (frC f vd vr)[1]? = some (.int .u64 (f.id : Int)) := rfl
 have e2 : (frC f vd vr)[2]? = some (.int .u64 (f.a : Int)) := rfl
 have hM := ((Mod.refl (fun _ => False) w).alloc (.cells (frC f vd vr) 52)).alloc (.cells #[.int .u64 (f.id : Int), .int .u64 (f.a : Int)] 26)
 have HI := Lib.hid (ints_any (hM.tabs hT (fun h => h)) (ints_lit2 w (.cells (frC f vd vr) 52) [f.id, f.a] #[.int .u64 (f.id : Int), .int .u64 (f.a : Int)] 2 26 rfl rfl (by decide)) (by simp))
 have HM := Lib.hid hM
 unfold frV
 clear hT hM
 generalize frC f vd vr = C at *
 generalize intsL [f.id, f.a] = L at *
 generalize (f.id : Int) = xid at *
 generalize (f.a : Int) = xa at *
 go_enter Tryz.func102, Tryz.ntmps102
 go_wp2_with fail
 refine (HI.out).mono ?_
 rintro e w1 ⟨v, rfl, ho, hM1⟩
 have HO := Lib.hid ho.byts
 obtain ⟨a1, c1, rfl, _⟩ := byts_val ho.byts
 have HM1 := Lib.hid hM1
 clear ho hM1 HI
 generalize L.length = n at *
 go_wp2_with fail
 go_ret
 exact ⟨_, rfl, HO.out, HM.out.trans HM1.out⟩
set_option maxRecDepth 10000 in
theorem put20 {w : World} {f : Fr} {vd vr : Value} (hT : Tabs w) : Puts 115 w f vd vr (putL f.id ++ putL f.c ++ putL f.a) := by
 unfold Puts
 rw [show putL f.id ++ putL f.c ++ putL f.a = intsL [f.id, f.c, f.a] by simp [intsL]]
 have e1 : (frC f vd vr)[1]? = some (.int .u64 (f.id : Int)) := rfl
 have e4 : (frC f vd vr)[4]? = some (.int .u64 (f.c : Int)) := rfl
 have e2 : (frC f vd vr)[2]? = some (.int .u64 (f.a : Int)) := rfl
 have hM := ((Mod.refl (fun _ => False) w).alloc (.cells (frC f vd vr) 52)).alloc (.cells #[.int .u64 (f.id : Int), .int .u64 (f.c : Int), .int .u64 (f.a : Int)] 26)
 have HI := Lib.hid (ints_any (hM.tabs hT (fun h => h)) (ints_lit2 w (.cells (frC f vd vr) 52) [f.id, f.c, f.a] #[.int .u64 (f.id : Int), .int .u64 (f.c : Int), .int .u64 (f.a : Int)] 3 26 rfl rfl (by decide)) (by simp))
 have HM := Lib.hid hM
 unfold frV
 clear hT hM
 generalize frC f vd vr = C at *
 generalize intsL [f.id, f.c, f.a] = L at *
 generalize (f.id : Int) = xid at *
 generalize (f.c : Int) = xc at *
 generalize (f.a : Int) = xa at *
 go_enter Tryz.func115, Tryz.ntmps115
 go_wp2_with fail
 refine (HI.out).mono ?_
 rintro e w1 ⟨v, rfl, ho, hM1⟩
 have HO := Lib.hid ho.byts
 obtain ⟨a1, c1, rfl, _⟩ := byts_val ho.byts
 have HM1 := Lib.hid hM1
 clear ho hM1 HI
 generalize L.length = n at *
 go_wp2_with fail
 go_ret
 exact ⟨_, rfl, HO.out, HM.out.trans HM1.out⟩
set_option maxRecDepth 10000 in
theorem put23 {w : World} {f : Fr} {vd vr : Value} (hT : Tabs w) : Puts 118 w f vd vr (putL f.id ++ putL f.c) := by
 unfold Puts
 rw [show putL f.id ++ putL f.c = intsL [f.id, f.c] by simp [intsL]]
 have e1 : (frC f vd vr)[1]? = some (.int .u64 (f.id : Int)) := rfl
 have e4 : (frC f vd vr)[4]? = some (.int .u64 (f.c : Int)) := rfl
 have hM := ((Mod.refl (fun _ => False) w).alloc (.cells (frC f vd vr) 52)).alloc (.cells #[.int .u64 (f.id : Int), .int .u64 (f.c : Int)] 26)
 have HI := Lib.hid (ints_any (hM.tabs hT (fun h => h)) (ints_lit2 w (.cells (frC f vd vr) 52) [f.id, f.c] #[.int .u64 (f.id : Int), .int .u64 (f.c : Int)] 2 26 rfl rfl (by decide)) (by simp))
 have HM := Lib.hid hM
 unfold frV
 clear hT hM
 generalize frC f vd vr = C at *
 generalize intsL [f.id, f.c] = L at *
 generalize (f.id : Int) = xid at *
 generalize (f.c : Int) = xc at *
 go_enter Tryz.func118, Tryz.ntmps118
 go_wp2_with fail
 refine (HI.out).mono ?_
 rintro e w1 ⟨v, rfl, ho, hM1⟩
 have HO := Lib.hid ho.byts
 obtain ⟨a1, c1, rfl, _⟩ := byts_val ho.byts
 have HM1 := Lib.hid hM1
 clear ho hM1 HI
 generalize L.length = n at *
 go_wp2_with fail
 go_ret
 exact ⟨_, rfl, HO.out, HM.out.trans HM1.out⟩
set_option maxRecDepth 10000 in
theorem put37 {w : World} {f : Fr} {vd vr : Value} (hT : Tabs w) : Puts 137 w f vd vr (putL f.id) := by
 unfold Puts
 rw [show putL f.id = intsL [f.id] by simp [intsL]]
 have e1 : (frC f vd vr)[1]? = some (.int .u64 (f.id : Int)) := rfl
 have hM := ((Mod.refl (fun _ => False) w).alloc (.cells (frC f vd vr) 52)).alloc (.cells #[.int .u64 (f.id : Int)] 26)
 have HI := Lib.hid (ints_any (hM.tabs hT (fun h => h)) (ints_lit2 w (.cells (frC f vd vr) 52) [f.id] #[.int .u64 (f.id : Int)] 1 26 rfl rfl (by decide)) (by simp))
 have HM := Lib.hid hM
 unfold frV
 clear hT hM
 generalize frC f vd vr = C at *
 generalize intsL [f.id] = L at *
 generalize (f.id : Int) = xid at *
 go_enter Tryz.func137, Tryz.ntmps137
 go_wp2_with fail
 refine (HI.out).mono ?_
 rintro e w1 ⟨v, rfl, ho, hM1⟩
 have HO := Lib.hid ho.byts
 obtain ⟨a1, c1, rfl, _⟩ := byts_val ho.byts
 have HM1 := Lib.hid hM1
 clear ho hM1 HI
 generalize L.length = n at *
 go_wp2_with fail
 go_ret
 exact ⟨_, rfl, HO.out, HM.out.trans HM1.out⟩
set_option maxRecDepth 10000 in
theorem put12 {w : World} {f : Fr} {vd vr : Value} (hv : FrV w f vd vr) : Puts 103 w f vd vr f.d := by
 unfold Puts
 have hM := (Mod.refl (fun _ => False) w).alloc (.cells (frC f vd vr) 52)
 have HB := Lib.hid (byts_kept hv.d hM)
 have HM := Lib.hid hM
 obtain ⟨da, dc, rfl, _⟩ := byts_val hv.d
 have e6 : (frC f (.slice da f.d.length dc) vr)[6]? = some (.slice da f.d.length dc) := rfl
 unfold frV
 clear hv hM
 generalize frC f (.slice da f.d.length dc) vr = C at *
 generalize hn : f.d.length = n at *
 clear hn
 go_enter Tryz.func103, Tryz.ntmps103
 go_wp2
 go_ret
 exact ⟨_, rfl, HB.out, HM.out⟩
theorem put13 {w : World} {f : Fr} {vd vr : Value} : Puts 104 w f vd vr [] := by
 unfold Puts
 have HM := Lib.hid ((Mod.refl (fun _ => False) w).alloc (.cells (frC f vd vr) 52))
 unfold frV
 generalize frC f vd vr = C at *
 go_enter Tryz.func104, Tryz.ntmps104
 go_wp2
 go_ret
 exact ⟨_, rfl, Sl.nil _ _, HM.out⟩
set_option maxRecDepth 10000 in
theorem put29 {w : World} {f : Fr} {vd vr : Value} (hT : Tabs w) (hv : FrV w f vd vr) (hn : (f.d.length : Int) ≤ 100000) : Puts 126 w f vd vr (dataL f.d) := by
 unfold Puts
 have hM := (Mod.refl (fun _ => False) w).alloc (.cells (frC f vd vr) 52)
 have HD := Lib.hid (data_any (hM.tabs hT (fun h => h)) (byts_kept hv.d hM) hn)
 have HM := Lib.hid hM
 obtain ⟨da, dc, rfl, _⟩ := byts_val hv.d
 have e6 : (frC f (.slice da f.d.length dc) vr)[6]? = some (.slice da f.d.length dc) := rfl
 unfold frV
 clear hv hM hT hn
 generalize frC f (.slice da f.d.length dc) vr = C at *
 generalize dataL f.d = L at *
 generalize hn : f.d.length = n at *
 clear hn
 go_enter Tryz.func126, Tryz.ntmps126
 go_wp2_with fail
 refine (HD.out).mono ?_
 rintro e w1 ⟨v, rfl, ho, hM1⟩
 have HO := Lib.hid ho.byts
 obtain ⟨a1, c1, rfl, _⟩ := byts_val ho.byts
 have HM1 := Lib.hid hM1
 clear ho hM1 HD
 generalize L.length = n1 at *
 go_wp2_with fail
 go_ret
 exact ⟨_, rfl, HO.out, HM.out.trans HM1.out⟩
set_option maxRecDepth 10000 in
theorem put17 {w : World} {f : Fr} {vd vr : Value} (h1 : 1 ≤ f.a) (h2 : f.a ≤ 1200) : Puts 108 w f vd vr (List.replicate (f.a - 1) 0) := by
 unfold Puts
 have e2 : (frC f vd vr)[2]? = some (.int .u64 (f.a : Int)) := rfl
 have HM := Lib.hid ((Mod.refl (fun _ => False) w).alloc (.cells (frC f vd vr) 52))
 unfold frV
 generalize frC f vd vr = C at *
 generalize f.a = m at *
 obtain ⟨n, hn⟩ : ∃ n, n = m - 1 := ⟨_, rfl⟩
 rw [← hn]
 have hw : IntKind.u64.wrap ((m : Int) - 1) = (n : Int) := by rw [show (m : Int) - 1 = (n : Int) by omega]; exact IntWalk.u64_in _ (by omega)
 have hn2 : (n : Int) ≤ 1199 := by omega
 clear h1 h2 hn
 obtain ⟨i0, hi, hz0, hz1, hz2⟩ := info_parts Tryz.info5
 go_enter Tryz.func108, Tryz.ntmps108
 go_wp2_with (at_make; go_must (refine wpList_make_full _ rfl _ _ 42 rfl (w.heap.size + 1) 5 i0 (.int .u8 0) 1 Tryz.underlying42 hi hz0 hz1 _ _ _ _ n rfl rfl rfl rfl (by rw [hz2]; omega) (by unfold maxLen; omega) (by simp) ?_); intro w1 hown hgrow)
 have hb : Byts w1 (.slice (some ⟨w.heap.size + 1, 0, none⟩) n n) (List.replicate n 0) := by
  have h := Sl.ofOwn hown
  rw [Nat.mul_one, show (Value.int .u8 0).cells = #[.int .u8 0] from rfl, toList_madeCells_one, show (w.alloc (.cells C 52)).heap.size = w.heap.size + 1 by simp] at h
  have e : (List.replicate n (Value.int .u8 0)) = (List.replicate n (0 : UInt8)).map bv := by rw [List.map_replicate]; rfl
  rw [e] at h
  unfold Byts
  rw [List.length_replicate]
  exact h
 have HB := Lib.hid hb
 have HM1 := Lib.hid (HM.out.grown hgrow (fun k h => by simp at h))
 clear hb hown hgrow
 go_wp2
 go_ret
 exact ⟨_, rfl, HB.out, HM1.out⟩
set_option maxHeartbeats 4000000 in
set_option maxRecDepth 10000 in
theorem put26 {w : World} {f : Fr} {vd vr : Value} (hT : Tabs w) (hv : FrV w f vd vr) (hn : (f.d.length : Int) ≤ 100000) : Puts 122 w f vd vr (putL f.a ++ dataL f.d) := by
 unfold Puts
 rw [show putL f.a ++ dataL f.d = intsL [f.a] ++ dataL f.d by simp [intsL]]
 have HT := Lib.hid hT
 have HV := Lib.hid hv
 have HN := Lib.hid hn
 have HS0 : Hid (FrB (w.alloc (.cells (frC f vd vr) 52)).drew w.heap.size f vd vr ∧ Mod (fun _ => False) w (w.alloc (.cells (frC f vd vr) 52)).drew) := ⟨(FrB.new w f vd vr hv.t).kept (Mod.refl _ _).drew, ((Mod.refl _ w).alloc _).drew⟩
 have HSB : Hid (FrB ((w.alloc (.cells (frC f vd vr) 52)).alloc (.cells #[.int .u64 (f.a : Int)] 26)).drew w.heap.size f vd vr ∧ Mod (fun _ => False) w ((w.alloc (.cells (frC f vd vr) 52)).alloc (.cells #[.int .u64 (f.a : Int)] 26)).drew) := ⟨(FrB.new w f vd vr hv.t).kept ((Mod.refl _ _).alloc _).drew, (((Mod.refl _ w).alloc _).alloc _).drew⟩
 have HLT : Hid (Ints ((w.alloc (.cells (frC f vd vr) 52)).alloc (.cells #[.int .u64 (f.a : Int)] 26)).drew (.slice (some ⟨w.heap.size + 1, 0, none⟩) 1 1) [f.a]) := Sl.kept (ints_lit2 w _ [f.a] #[.int .u64 (f.a : Int)] 1 26 rfl rfl (by decide)) ((Mod.refl (fun _ => False) _).drew) (fun _ _ h => h)
 have HLB : Hid ((((intsL [f.a]).length + (dataL f.d).length : Nat) : Int) ≤ 140737488355328) := by
  show _ ≤ _
  have h1 := intsL_len [f.a]
  have h2 := putL_len f.d.length
  unfold dataL
  simp only [List.length_append, List.length_cons, List.length_nil] at h1 ⊢
  omega
 clear hT hv hn
 unfold frV
 go_enter Tryz.func122, Tryz.ntmps122
 go_wp2_with fail
 refine wp_region_held_drew (S := fun X => FrB X w.heap.size f vd vr ∧ Mod (fun _ => False) w X) (by kernel_rfl) HS0.out (fun hS => ?_)
 refine tk 0 (.pointer (some ⟨w.heap.size, 2, none⟩)) (some 3) rfl rfl (by kernel_rfl) (fun _ _ _ => id) (Or.inl ⟨by rfl, fun X hX => ?_⟩) hS ?_
 ·go_simp
 (try go_frame); refine tk 1 (.int .u64 (f.a : Int)) (some 4) rfl rfl (by kernel_rfl) (fun _ _ _ => id) (Or.inl ⟨by rfl, fun X hX => ?_⟩) hS ?_
 ·have := hX.1.cells.2.2.1; go_simp
 (try go_frame); refine tk 4 (.pointer (some ⟨w.heap.size, 6, none⟩)) (some 7) rfl rfl (by kernel_rfl) (fun _ _ _ => id) (Or.inl ⟨by rfl, fun X hX => ?_⟩) hS ?_
 ·go_simp
 (try go_frame); refine tk 5 vd (some 8) rfl rfl (by kernel_rfl) (fun _ _ _ => id) (Or.inl ⟨by rfl, fun X hX => ?_⟩) hS ?_
 ·have := hX.1.cells.2.2.2.2.2.2.1; go_simp
 (try go_frame); refine wpAnyH_ready (rs := [2]) (by kernel_rfl) (by simp) ?_
 refine arH rfl fun K hK => ?_
 go_simp
 refine hK.out _ _ HSB.out (fun hS => ?_)
 clear hK K
 refine wpAnyH_ready (rs := [3]) (by kernel_rfl) (by simp) ?_
 refine arH rfl fun K hK => ?_
 go_simp
 refine (ints_any (hS.2.tabs HT.out (fun h => h)) HLT.out (by simp)).mono ?_
 rintro e X1 ⟨v1, rfl, ho1, hk1⟩
 refine hK.out _ _ ⟨hS.1.kept hk1, hS.2.trans hk1⟩ (fun hS => ?_)
 clear hK K
 refine wpAnyH_ready (rs := [6]) (by kernel_rfl) (by simp) ?_
 refine arH rfl fun K hK => ?_
 go_simp
 refine (data_any (hS.2.tabs HT.out (fun h => h)) (byts_kept HV.out.d hS.2) HN.out).mono ?_
 rintro e X2 ⟨v2, rfl, ho2, hk2⟩
 refine hK.out _ _ ⟨hS.1.kept hk2, hS.2.trans hk2⟩ (fun hS => ?_)
 clear hK K
 refine wpAnyH_ready (rs := [7]) (by kernel_rfl) (by simp) ?_
 refine arH rfl fun K hK => ?_
 refine step_append_b rfl (.tmp 6) (.tmp 9) rfl v1 (intsL [f.a]) _ _ (by rfl) (ho1.keptF hk2) v2 (dataL f.d) (by rfl) ho2.byts (intsL [f.a] ++ dataL f.d) rfl rfl HLB.out (Nat.le_trans hk1.size hk2.size) ?_
 intro ap cp X3 hA
 have hM3 := hA.modF (hk1.trans hk2) (Nat.le_refl _)
 (try go_frame); refine hK.out _ _ ⟨HSB.out.1.kept hM3, HSB.out.2.trans hM3⟩ (fun hS => ?_)
 clear hK K
 refine wpAnyH_ready (rs := [8]) (by kernel_rfl) (by simp) ?_
 refine arH rfl fun K hK => ?_
 go_simp
 refine hK.out _ _ hS (fun hS => ?_)
 clear hK K
 refine wpAnyH_done (by kernel_rfl) ?_ _
 have HB := Lib.hid hA.byts
 have HM3 := Lib.hid hS.2
 generalize (intsL [f.a]).length + (dataL f.d).length = n at *
 clear hA hS hM3 ho1 ho2 hk1 hk2
 go_wp2_with fail
 go_ret
 exact ⟨_, rfl, HB.out, HM3.out⟩
set_option maxHeartbeats 4000000 in
set_option maxRecDepth 10000 in
theorem put40t {w : World} {f : Fr} {vd vr : Value} (hT : Tabs w) (hv : FrV w f vd vr) (hn : (f.d.length : Int) ≤ 100000) (hfl : f.fl = true) : Puts 140 w f vd vr (putL f.c ++ dataL f.d) := by
 unfold Puts
 rw [show putL f.c ++ dataL f.d = intsL [f.c] ++ dataL f.d by simp [intsL]]
 have HT := Lib.hid hT
 have HV := Lib.hid hv
 have HN := Lib.hid hn
 have HS0 : Hid (FrB (w.alloc (.cells (frC f vd vr) 52)).drew w.heap.size f vd vr ∧ Mod (fun _ => False) w (w.alloc (.cells (frC f vd vr) 52)).drew) := ⟨(FrB.new w f vd vr hv.t).kept (Mod.refl _ _).drew, ((Mod.refl _ w).alloc _).drew⟩
 have HSB : Hid (FrB ((w.alloc (.cells (frC f vd vr) 52)).alloc (.cells #[.int .u64 (f.c : Int)] 26)).drew w.heap.size f vd vr ∧ Mod (fun _ => False) w ((w.alloc (.cells (frC f vd vr) 52)).alloc (.cells #[.int .u64 (f.c : Int)] 26)).drew) := ⟨(FrB.new w f vd vr hv.t).kept ((Mod.refl _ _).alloc _).drew, (((Mod.refl _ w).alloc _).alloc _).drew⟩
 have HLT : Hid (Ints ((w.alloc (.cells (frC f vd vr) 52)).alloc (.cells #[.int .u64 (f.c : Int)] 26)).drew (.slice (some ⟨w.heap.size + 1, 0, none⟩) 1 1) [f.c]) := Sl.kept (ints_lit2 w _ [f.c] #[.int .u64 (f.c : Int)] 1 26 rfl rfl (by decide)) ((Mod.refl (fun _ => False) _).drew) (fun _ _ h => h)
 have HLB : Hid ((((intsL [f.c]).length + (dataL f.d).length : Nat) : Int) ≤ 140737488355328) := by
  show _ ≤ _
  have h1 := intsL_len [f.c]
  have h2 := putL_len f.d.length
  unfold dataL
  simp only [List.length_append, List.length_cons, List.length_nil] at h1 ⊢
  omega
 have e5 : (frC f vd vr)[5]? = some (.bool f.fl) := rfl
 rw [hfl] at e5
 clear hT hv hn hfl
 unfold frV
 go_enter Tryz.func140, Tryz.ntmps140
 go_wp2_with fail
 refine wp_region_held_drew (S := fun X => FrB X w.heap.size f vd vr ∧ Mod (fun _ => False) w X) (by kernel_rfl) HS0.out (fun hS => ?_)
 refine tk 0 (.pointer (some ⟨w.heap.size, 4, none⟩)) (some 5) rfl rfl (by kernel_rfl) (fun _ _ _ => id) (Or.inl ⟨by rfl, fun X hX => ?_⟩) hS ?_
 ·go_simp
 (try go_frame); refine tk 1 (.int .u64 (f.c : Int)) (some 6) rfl rfl (by kernel_rfl) (fun _ _ _ => id) (Or.inl ⟨by rfl, fun X hX => ?_⟩) hS ?_
 ·have := hX.1.cells.2.2.2.2.1; go_simp
 (try go_frame); refine tk 4 (.pointer (some ⟨w.heap.size, 6, none⟩)) (some 9) rfl rfl (by kernel_rfl) (fun _ _ _ => id) (Or.inl ⟨by rfl, fun X hX => ?_⟩) hS ?_
 ·go_simp
 (try go_frame); refine tk 5 vd (some 10) rfl rfl (by kernel_rfl) (fun _ _ _ => id) (Or.inl ⟨by rfl, fun X hX => ?_⟩) hS ?_
 ·have := hX.1.cells.2.2.2.2.2.2.1; go_simp
 (try go_frame); refine wpAnyH_ready (rs := [2]) (by kernel_rfl) (by simp) ?_
 refine arH rfl fun K hK => ?_
 go_simp
 refine hK.out _ _ HSB.out (fun hS => ?_)
 clear hK K
 refine wpAnyH_ready (rs := [3]) (by kernel_rfl) (by simp) ?_
 refine arH rfl fun K hK => ?_
 go_simp
 refine (ints_any (hS.2.tabs HT.out (fun h => h)) HLT.out (by simp)).mono ?_
 rintro e X1 ⟨v1, rfl, ho1, hk1⟩
 refine hK.out _ _ ⟨hS.1.kept hk1, hS.2.trans hk1⟩ (fun hS => ?_)
 clear hK K
 refine wpAnyH_ready (rs := [6]) (by kernel_rfl) (by simp) ?_
 refine arH rfl fun K hK => ?_
 go_simp
 refine (data_any (hS.2.tabs HT.out (fun h => h)) (byts_kept HV.out.d hS.2) HN.out).mono ?_
 rintro e X2 ⟨v2, rfl, ho2, hk2⟩
 refine hK.out _ _ ⟨hS.1.kept hk2, hS.2.trans hk2⟩ (fun hS => ?_)
 clear hK K
 refine wpAnyH_ready (rs := [7]) (by kernel_rfl) (by simp) ?_
 refine arH rfl fun K hK => ?_
 refine step_append_b rfl (.tmp 8) (.tmp 11) rfl v1 (intsL [f.c]) _ _ (by rfl) (ho1.keptF hk2) v2 (dataL f.d) (by rfl) ho2.byts (intsL [f.c] ++ dataL f.d) rfl rfl HLB.out (Nat.le_trans hk1.size hk2.size) ?_
 intro ap cp X3 hA
 have hM3 := hA.modF (hk1.trans hk2) (Nat.le_refl _)
 (try go_frame); refine hK.out _ _ ⟨HSB.out.1.kept hM3, HSB.out.2.trans hM3⟩ (fun hS => ?_)
 clear hK K
 refine wpAnyH_ready (rs := [8]) (by kernel_rfl) (by simp) ?_
 refine arH rfl fun K hK => ?_
 go_simp
 refine hK.out _ _ hS (fun hS => ?_)
 clear hK K
 refine wpAnyH_done (by kernel_rfl) ?_ _
 have HB := Lib.hid hA.byts
 have HM3 := Lib.hid hS.2
 generalize (intsL [f.c]).length + (dataL f.d).length = n at *
 clear hA hS hM3 ho1 ho2 hk1 hk2
 go_wp2_with fail
 go_ret
 exact ⟨_, rfl, HB.out, HM3.out⟩
set_option maxHeartbeats 4000000 in
set_option maxRecDepth 10000 in
theorem put40f {w : World} {f : Fr} {vd vr : Value} (hT : Tabs w) (hv : FrV w f vd vr) (hn : (f.d.length : Int) ≤ 100000) (hfl : f.fl = false) : Puts 140 w f vd vr (putL f.c ++ putL f.a ++ dataL f.d) := by
 unfold Puts
 rw [show putL f.c ++ putL f.a ++ dataL f.d = intsL [f.c, f.a] ++ dataL f.d by simp [intsL]]
 have HT := Lib.hid hT
 have HV := Lib.hid hv
 have HN := Lib.hid hn
 have HS0 : Hid (FrB (w.alloc (.cells (frC f vd vr) 52)).drew w.heap.size f vd vr ∧ Mod (fun _ => False) w (w.alloc (.cells (frC f vd vr) 52)).drew) := ⟨(FrB.new w f vd vr hv.t).kept (Mod.refl _ _).drew, ((Mod.refl _ w).alloc _).drew⟩
 have HSB : Hid (FrB ((w.alloc (.cells (frC f vd vr) 52)).alloc (.cells #[.int .u64 (f.c : Int), .int .u64 (f.a : Int)] 26)).drew w.heap.size f vd vr ∧ Mod (fun _ => False) w ((w.alloc (.cells (frC f vd vr) 52)).alloc (.cells #[.int .u64 (f.c : Int), .int .u64 (f.a : Int)] 26)).drew) := ⟨(FrB.new w f vd vr hv.t).kept ((Mod.refl _ _).alloc _).drew, (((Mod.refl _ w).alloc _).alloc _).drew⟩
 have HLT : Hid (Ints ((w.alloc (.cells (frC f vd vr) 52)).alloc (.cells #[.int .u64 (f.c : Int), .int .u64 (f.a : Int)] 26)).drew (.slice (some ⟨w.heap.size + 1, 0, none⟩) 2 2) [f.c, f.a]) := Sl.kept (ints_lit2 w _ [f.c, f.a] #[.int .u64 (f.c : Int), .int .u64 (f.a : Int)] 2 26 rfl rfl (by decide)) ((Mod.refl (fun _ => False) _).drew) (fun _ _ h => h)
 have HLB : Hid ((((intsL [f.c, f.a]).length + (dataL f.d).length : Nat) : Int) ≤ 140737488355328) := by
  show _ ≤ _
  have h1 := intsL_len [f.c, f.a]
  have h2 := putL_len f.d.length
  unfold dataL
  simp only [List.length_append, List.length_cons, List.length_nil] at h1 ⊢
  omega
 have e5 : (frC f vd vr)[5]? = some (.bool f.fl) := rfl
 rw [hfl] at e5
 clear hT hv hn hfl
 unfold frV
 go_enter Tryz.func140, Tryz.ntmps140
 go_wp2_with fail
 refine wp_region_held_drew (S := fun X => FrB X w.heap.size f vd vr ∧ Mod (fun _ => False) w X) (by kernel_rfl) HS0.out (fun hS => ?_)
 refine tk 0 (.pointer (some ⟨w.heap.size, 4, none⟩)) (some 13) rfl rfl (by kernel_rfl) (fun _ _ _ => id) (Or.inl ⟨by rfl, fun X hX => ?_⟩) hS ?_
 ·go_simp
 (try go_frame); refine tk 1 (.int .u64 (f.c : Int)) (some 14) rfl rfl (by kernel_rfl) (fun _ _ _ => id) (Or.inl ⟨by rfl, fun X hX => ?_⟩) hS ?_
 ·have := hX.1.cells.2.2.2.2.1; go_simp
 (try go_frame); refine tk 2 (.pointer (some ⟨w.heap.size, 2, none⟩)) (some 15) rfl rfl (by kernel_rfl) (fun _ _ _ => id) (Or.inl ⟨by rfl, fun X hX => ?_⟩) hS ?_
 ·go_simp
 (try go_frame); refine tk 3 (.int .u64 (f.a : Int)) (some 16) rfl rfl (by kernel_rfl) (fun _ _ _ => id) (Or.inl ⟨by rfl, fun X hX => ?_⟩) hS ?_
 ·have := hX.1.cells.2.2.1; go_simp
 (try go_frame); refine tk 6 (.pointer (some ⟨w.heap.size, 6, none⟩)) (some 19) rfl rfl (by kernel_rfl) (fun _ _ _ => id) (Or.inl ⟨by rfl, fun X hX => ?_⟩) hS ?_
 ·go_simp
 (try go_frame); refine tk 7 vd (some 20) rfl rfl (by kernel_rfl) (fun _ _ _ => id) (Or.inl ⟨by rfl, fun X hX => ?_⟩) hS ?_
 ·have := hX.1.cells.2.2.2.2.2.2.1; go_simp
 (try go_frame); refine wpAnyH_ready (rs := [4]) (by kernel_rfl) (by simp) ?_
 refine arH rfl fun K hK => ?_
 go_simp
 refine hK.out _ _ HSB.out (fun hS => ?_)
 clear hK K
 refine wpAnyH_ready (rs := [5]) (by kernel_rfl) (by simp) ?_
 refine arH rfl fun K hK => ?_
 go_simp
 refine (ints_any (hS.2.tabs HT.out (fun h => h)) HLT.out (by simp)).mono ?_
 rintro e X1 ⟨v1, rfl, ho1, hk1⟩
 refine hK.out _ _ ⟨hS.1.kept hk1, hS.2.trans hk1⟩ (fun hS => ?_)
 clear hK K
 refine wpAnyH_ready (rs := [8]) (by kernel_rfl) (by simp) ?_
 refine arH rfl fun K hK => ?_
 go_simp
 refine (data_any (hS.2.tabs HT.out (fun h => h)) (byts_kept HV.out.d hS.2) HN.out).mono ?_
 rintro e X2 ⟨v2, rfl, ho2, hk2⟩
 refine hK.out _ _ ⟨hS.1.kept hk2, hS.2.trans hk2⟩ (fun hS => ?_)
 clear hK K
 refine wpAnyH_ready (rs := [9]) (by kernel_rfl) (by simp) ?_
 refine arH rfl fun K hK => ?_
 refine step_append_b rfl (.tmp 18) (.tmp 21) rfl v1 (intsL [f.c, f.a]) _ _ (by rfl) (ho1.keptF hk2) v2 (dataL f.d) (by rfl) ho2.byts (intsL [f.c, f.a] ++ dataL f.d) rfl rfl HLB.out (Nat.le_trans hk1.size hk2.size) ?_
 intro ap cp X3 hA
 have hM3 := hA.modF (hk1.trans hk2) (Nat.le_refl _)
 (try go_frame); refine hK.out _ _ ⟨HSB.out.1.kept hM3, HSB.out.2.trans hM3⟩ (fun hS => ?_)
 clear hK K
 refine wpAnyH_ready (rs := [10]) (by kernel_rfl) (by simp) ?_
 refine arH rfl fun K hK => ?_
 go_simp
 refine hK.out _ _ hS (fun hS => ?_)
 clear hK K
 refine wpAnyH_done (by kernel_rfl) ?_ _
 have HB := Lib.hid hA.byts
 have HM3 := Lib.hid hS.2
 generalize (intsL [f.c, f.a]).length + (dataL f.d).length = n at *
 clear hA hS hM3 ho1 ho2 hk1 hk2
 go_wp2_with fail
 go_ret
 exact ⟨_, rfl, HB.out, HM3.out⟩
end Go.Proofs.YtolgeghdkoodnaaGreatDoor
set_option maxRecDepth 100000
namespace Go.Proofs.YtolgeghdkoodnaaGreatDoor
open Go.RowKit
theorem parts4 {w : World} {b : Nat} {v1 v2 v3 v4 : Value} {l1 l2 l3 l4 : List UInt8} {T : TypeId} (hb : Blk w b #[v1, v2, v3, v4] T) (h1 : Byts w v1 l1) (h2 : Byts w v2 l2) (h3 : Byts w v3 l3) (h4 : Byts w v4 l4) : Parts w b 0 [l1, l2, l3, l4] := by
 intro i l hl
 obtain ⟨a1, c1, rfl, _⟩ := byts_val h1
 obtain ⟨a2, c2, rfl, _⟩ := byts_val h2
 obtain ⟨a3, c3, rfl, _⟩ := byts_val h3
 obtain ⟨a4, c4, rfl, _⟩ := byts_val h4
 rw [Nat.zero_add]
 match i, hl with
 | 0, hl => simp at hl; subst hl; exact ⟨_, _, hb.cellAt 0 rfl, h1⟩
 | 1, hl => simp at hl; subst hl; exact ⟨_, _, hb.cellAt 1 rfl, h2⟩
 | 2, hl => simp at hl; subst hl; exact ⟨_, _, hb.cellAt 2 rfl, h3⟩
 | 3, hl => simp at hl; subst hl; exact ⟨_, _, hb.cellAt 3 rfl, h4⟩
 | (_ + 4), hl => simp at hl
theorem concat4 {w : World} {b : Nat} {v1 v2 v3 v4 : Value} {l1 l2 l3 l4 : List UInt8} {T : TypeId} (hb : Blk w b #[v1, v2, v3, v4] T) (h1 : Byts w v1 l1) (h2 : Byts w v2 l2) (h3 : Byts w v3 l3) (h4 : Byts w v4 l4) {L : List UInt8} (hL : l1 ++ l2 ++ l3 ++ l4 = L) (hl : (L.length : Int) ≤ 100000) (hp : 0 < L.length) :
  Calls Tryz.prog 133 #[.slice (some ⟨b, 0, none⟩) 4 4] w fun e w' => ∃ v', e = .returned v' ∧ OwnB w' w.heap.size v' L ∧ Mod (fun _ => False) w w' := by
 have e : [l1, l2, l3, l4].flatten = L := by rw [← hL]; simp
 rw [← e] at hl hp ⊢
 exact concat_any (n := 4) (c := 4) (ls := [l1, l2, l3, l4]) rfl (Nat.le_refl _) (parts4 hb h1 h2 h3 h4) hl hp (by decide)
theorem one_cell {n : Nat} (h : n ≤ 20) : #[Value.int .u8 (n : Int)] = ([UInt8.ofNat n].map bv).toArray := by
 have e : (UInt8.ofNat n).toNat = n := UInt8.toNat_ofNat_of_lt' (by show _ < 256; omega)
 simp [bv, e]
set_option maxHeartbeats 8000000 in
set_option maxRecDepth 10000 in
theorem put34 {w : World} {f : Fr} {vd vr : Value} (hT : Tabs w) (hv : FrV w f vd vr) (hn : f.d.length ≤ 20) : Puts 132 w f vd vr (putL f.id ++ putL f.a ++ [UInt8.ofNat f.d.length] ++ f.d ++ f.t) := by
 unfold Puts
 rw [show putL f.id ++ putL f.a ++ [UInt8.ofNat f.d.length] ++ f.d ++ f.t = intsL [f.id, f.a] ++ [UInt8.ofNat f.d.length] ++ f.d ++ f.t by simp [intsL]]
 have HT := Lib.hid hT
 have HV := Lib.hid hv
 have HS0 : Hid (FrB (w.alloc (.cells (frC f vd vr) 52)).drew w.heap.size f vd vr ∧ Mod (fun _ => False) w (w.alloc (.cells (frC f vd vr) 52)).drew) := ⟨(FrB.new w f vd vr hv.t).kept (Mod.refl _ _).drew, ((Mod.refl _ w).alloc _).drew⟩
 have HLB : Hid (((intsL [f.id, f.a] ++ [UInt8.ofNat f.d.length] ++ f.d ++ f.t).length : Int) ≤ 100000) := by
  show _ ≤ _
  have h1 := intsL_len [f.id, f.a]
  have h2 := hv.t
  simp only [List.length_append, List.length_cons, List.length_nil] at h1 ⊢
  omega
 have HPOS : Hid (0 < (intsL [f.id, f.a] ++ [UInt8.ofNat f.d.length] ++ f.d ++ f.t).length) := by show 0 < _; simp only [List.length_append, List.length_cons, List.length_nil]; omega
 have HC1 := Lib.hid (one_cell hn)
 have hw8 : IntKind.u8.wrap (f.d.length : Int) = f.d.length := IntWalk.u8_in _ (by omega)
 obtain ⟨da, dc, rfl, _⟩ := byts_val hv.d
 clear hT hv hn
 obtain ⟨vr, rfl⟩ : ∃ v, v = vr := ⟨_, rfl⟩
 generalize hnd : f.d.length = nd at *
 have HND := Lib.hid hnd
 clear hnd
 unfold frV
 go_enter Tryz.func132, Tryz.ntmps132
 go_wp2_with fail
 refine wp_region_held_drew (S := fun X => FrB X w.heap.size f (.slice da nd dc) vr ∧ Mod (fun _ => False) w X) (by kernel_rfl) HS0.out (fun hS => ?_)
 refine tk 0 (.pointer (some ⟨w.heap.size, 1, none⟩)) (some 3) rfl rfl (by kernel_rfl) (fun _ _ _ => id) (Or.inl ⟨by rfl, fun X hX => ?_⟩) hS ?_
 ·go_simp
 (try go_frame); refine tk 1 (.int .u64 (f.id : Int)) (some 4) rfl rfl (by kernel_rfl) (fun _ _ _ => id) (Or.inl ⟨by rfl, fun X hX => ?_⟩) hS ?_
 ·have := hX.1.cells.2.1; go_simp
 (try go_frame); refine tk 2 (.pointer (some ⟨w.heap.size, 2, none⟩)) (some 5) rfl rfl (by kernel_rfl) (fun _ _ _ => id) (Or.inl ⟨by rfl, fun X hX => ?_⟩) hS ?_
 ·go_simp
 (try go_frame); refine tk 3 (.int .u64 (f.a : Int)) (some 6) rfl rfl (by kernel_rfl) (fun _ _ _ => id) (Or.inl ⟨by rfl, fun X hX => ?_⟩) hS ?_
 ·have := hX.1.cells.2.2.1; go_simp
 (try go_frame); refine tk 6 (.pointer (some ⟨w.heap.size, 6, none⟩)) (some 9) rfl rfl (by kernel_rfl) (fun _ _ _ => id) (Or.inl ⟨by rfl, fun X hX => ?_⟩) hS ?_
 ·go_simp
 (try go_frame); refine tk 7 (.slice da nd dc) (some 10) rfl rfl (by kernel_rfl) (fun _ _ _ => id) (Or.inl ⟨by rfl, fun X hX => ?_⟩) hS ?_
 ·have := hX.1.cells.2.2.2.2.2.2.1; go_simp
 (try go_frame); refine tk 8 (.int .i64 (nd : Int)) (some 11) rfl rfl (by kernel_rfl) (fun _ _ _ => id) (Or.inl ⟨by rfl, fun X hX => ?_⟩) hS ?_
 ·go_simp
 (try go_frame); refine tk 9 (.int .u8 (nd : Int)) (some 12) rfl rfl (by kernel_rfl) (fun _ _ _ => id) (Or.inl ⟨by rfl, fun X hX => ?_⟩) hS ?_
 ·go_simp
 (try go_frame); refine tk 11 (.pointer (some ⟨w.heap.size, 6, none⟩)) (some 14) rfl rfl (by kernel_rfl) (fun _ _ _ => id) (Or.inl ⟨by rfl, fun X hX => ?_⟩) hS ?_
 ·go_simp
 (try go_frame); refine tk 12 (.slice da nd dc) (some 15) rfl rfl (by kernel_rfl) (fun _ _ _ => id) (Or.inl ⟨by rfl, fun X hX => ?_⟩) hS ?_
 ·have := hX.1.cells.2.2.2.2.2.2.1; go_simp
 (try go_frame); refine tk 13 (.pointer (some ⟨w.heap.size, 8, none⟩)) (some 16) rfl rfl (by kernel_rfl) (fun _ _ _ => id) (Or.inl ⟨by rfl, fun X hX => ?_⟩) hS ?_
 ·go_simp
 (try go_frame); refine tk 14 (.slice (some ⟨w.heap.size, 8, none⟩) 16 16) (some 17) rfl rfl (by kernel_rfl) (fun _ _ _ => id) (Or.inl ⟨by rfl, fun X hX => ?_⟩) hS ?_
 ·go_simp
 (try go_frame)
 generalize (w.alloc (.cells (frC f (.slice da nd dc) vr) 52)).drew = W0 at *
 refine wpAnyH_ready (rs := [4, 10]) (by kernel_rfl) (by simp) ?_
 refine AllReadyH.cons rfl (fun K hK => ?_) (AllReadyH.cons rfl (fun K hK => ?_) AllReadyH.nil)
 ·skip
  go_simp
  have hk4 := (Mod.refl (fun _ => False) W0).alloc (.cells #[.int .u64 (f.id : Int), .int .u64 (f.a : Int)] 26)
  have hI := ints_lit W0 [f.id, f.a] #[.int .u64 (f.id : Int), .int .u64 (f.a : Int)] 2 26 rfl rfl (by decide)
  refine hK.out _ _ ⟨hS.1.kept hk4, hS.2.trans hk4⟩ (fun hS => ?_)
  clear hK K
  generalize hg4 : W0.alloc (.cells #[.int .u64 (f.id : Int), .int .u64 (f.a : Int)] 26) = W4 at *
  refine wpAnyH_ready (rs := [5, 10]) (by kernel_rfl) (by simp) ?_
  refine AllReadyH.cons rfl (fun K hK => ?_) (AllReadyH.cons rfl (fun K hK => ?_) AllReadyH.nil)
  ·skip
   go_simp
   refine (ints_any (hS.2.tabs HT.out (fun h => h)) hI (by simp)).mono ?_
   rintro e W5 ⟨v1, rfl, ho1, hk5⟩
   have hb1 := ho1.byts
   obtain ⟨a1, c1, rfl, _⟩ := byts_val hb1
   refine hK.out _ _ ⟨hS.1.kept hk5, hS.2.trans hk5⟩ (fun hS => ?_)
   clear hK K
   refine wpAnyH_ready (rs := [10]) (by kernel_rfl) (by simp) ?_
   refine arH rfl fun K hK => ?_
   go_simp
   have hk10 := (Mod.refl (fun _ => False) W5).alloc (.cells #[.int .u8 (nd : Int)] 5)
   have hB := byts_lit W5 [UInt8.ofNat nd] #[.int .u8 (nd : Int)] 1 HC1.out rfl (by decide)
   refine hK.out _ _ ⟨hS.1.kept hk10, hS.2.trans hk10⟩ (fun hS => ?_)
   clear hK K
   generalize hg10 : W5.alloc (.cells #[.int .u8 (nd : Int)] 5) = W10 at *
   refine wpAnyH_ready (rs := [15]) (by kernel_rfl) (by simp) ?_
   refine arH rfl fun K hK => ?_
   go_simp
   have hk15 := (Mod.refl (fun _ => False) W10).alloc (.cells #[.slice a1 (intsL [f.id, f.a]).length c1, .slice (some ⟨W5.heap.size, 0, none⟩) 1 1, .slice da nd dc, .slice (some ⟨w.heap.size, 8, none⟩) 16 16] 42)
   have hP := Blk.new W10 #[.slice a1 (intsL [f.id, f.a]).length c1, .slice (some ⟨W5.heap.size, 0, none⟩) 1 1, .slice da nd dc, .slice (some ⟨w.heap.size, 8, none⟩) 16 16] 42
   have hbd := byts_kept HV.out.d hS.2
   have hbt := hS.1.byts
   have hC := concat4 hP (byts_kept (byts_kept hb1 hk10) hk15) (byts_kept (hB) hk15) (byts_kept hbd hk15) (byts_kept hbt hk15) rfl HLB.out HPOS.out
   refine hK.out _ _ ⟨hS.1.kept hk15, hS.2.trans hk15⟩ (fun hS => ?_)
   clear hK K
   refine wpAnyH_ready (rs := [16]) (by kernel_rfl) (by simp) ?_
   refine arH rfl fun K hK => ?_
   go_simp
   refine hC.mono ?_
   rintro e X9 ⟨v9, rfl, ho9, hk9⟩
   refine hK.out _ _ ⟨hS.1.kept hk9, hS.2.trans hk9⟩ (fun hS => ?_)
   clear hK K
   refine wpAnyH_ready (rs := [17]) (by kernel_rfl) (by simp) ?_
   refine arH rfl fun K hK => ?_
   go_simp
   refine hK.out _ _ hS (fun hS => ?_)
   clear hK K
   refine wpAnyH_done (by kernel_rfl) ?_ _
   have HB := Lib.hid ho9.byts
   have HM9 := Lib.hid hS.2
   obtain ⟨a9, c9, rfl, _⟩ := byts_val ho9.byts
   generalize (intsL [f.id, f.a] ++ [UInt8.ofNat nd] ++ f.d ++ f.t).length = n at *
   clear hS ho9 hk9 hC hP hk15 hbd hbt
   go_wp2_with fail
   go_ret
   exact ⟨_, rfl, HB.out, HM9.out⟩
  ·skip
   go_simp
   have hk10 := (Mod.refl (fun _ => False) W4).alloc (.cells #[.int .u8 (nd : Int)] 5)
   have hB := byts_lit W4 [UInt8.ofNat nd] #[.int .u8 (nd : Int)] 1 HC1.out rfl (by decide)
   refine hK.out _ _ ⟨hS.1.kept hk10, hS.2.trans hk10⟩ (fun hS => ?_)
   clear hK K
   generalize hg10 : W4.alloc (.cells #[.int .u8 (nd : Int)] 5) = W10 at *
   refine wpAnyH_ready (rs := [5]) (by kernel_rfl) (by simp) ?_
   refine arH rfl fun K hK => ?_
   go_simp
   refine (ints_any (hS.2.tabs HT.out (fun h => h)) (Sl.kept hI hk10 (fun _ _ h => h)) (by simp)).mono ?_
   rintro e W5 ⟨v1, rfl, ho1, hk5⟩
   have hb1 := ho1.byts
   obtain ⟨a1, c1, rfl, _⟩ := byts_val hb1
   refine hK.out _ _ ⟨hS.1.kept hk5, hS.2.trans hk5⟩ (fun hS => ?_)
   clear hK K
   refine wpAnyH_ready (rs := [15]) (by kernel_rfl) (by simp) ?_
   refine arH rfl fun K hK => ?_
   go_simp
   have hk15 := (Mod.refl (fun _ => False) W5).alloc (.cells #[.slice a1 (intsL [f.id, f.a]).length c1, .slice (some ⟨W4.heap.size, 0, none⟩) 1 1, .slice da nd dc, .slice (some ⟨w.heap.size, 8, none⟩) 16 16] 42)
   have hP := Blk.new W5 #[.slice a1 (intsL [f.id, f.a]).length c1, .slice (some ⟨W4.heap.size, 0, none⟩) 1 1, .slice da nd dc, .slice (some ⟨w.heap.size, 8, none⟩) 16 16] 42
   have hbd := byts_kept HV.out.d hS.2
   have hbt := hS.1.byts
   have hC := concat4 hP (byts_kept (hb1) hk15) (byts_kept (byts_kept hB hk5) hk15) (byts_kept hbd hk15) (byts_kept hbt hk15) rfl HLB.out HPOS.out
   refine hK.out _ _ ⟨hS.1.kept hk15, hS.2.trans hk15⟩ (fun hS => ?_)
   clear hK K
   refine wpAnyH_ready (rs := [16]) (by kernel_rfl) (by simp) ?_
   refine arH rfl fun K hK => ?_
   go_simp
   refine hC.mono ?_
   rintro e X9 ⟨v9, rfl, ho9, hk9⟩
   refine hK.out _ _ ⟨hS.1.kept hk9, hS.2.trans hk9⟩ (fun hS => ?_)
   clear hK K
   refine wpAnyH_ready (rs := [17]) (by kernel_rfl) (by simp) ?_
   refine arH rfl fun K hK => ?_
   go_simp
   refine hK.out _ _ hS (fun hS => ?_)
   clear hK K
   refine wpAnyH_done (by kernel_rfl) ?_ _
   have HB := Lib.hid ho9.byts
   have HM9 := Lib.hid hS.2
   obtain ⟨a9, c9, rfl, _⟩ := byts_val ho9.byts
   generalize (intsL [f.id, f.a] ++ [UInt8.ofNat nd] ++ f.d ++ f.t).length = n at *
   clear hS ho9 hk9 hC hP hk15 hbd hbt
   go_wp2_with fail
   go_ret
   exact ⟨_, rfl, HB.out, HM9.out⟩
 ·skip
  go_simp
  have hk10 := (Mod.refl (fun _ => False) W0).alloc (.cells #[.int .u8 (nd : Int)] 5)
  have hB := byts_lit W0 [UInt8.ofNat nd] #[.int .u8 (nd : Int)] 1 HC1.out rfl (by decide)
  refine hK.out _ _ ⟨hS.1.kept hk10, hS.2.trans hk10⟩ (fun hS => ?_)
  clear hK K
  generalize hg10 : W0.alloc (.cells #[.int .u8 (nd : Int)] 5) = W10 at *
  refine wpAnyH_ready (rs := [4]) (by kernel_rfl) (by simp) ?_
  refine arH rfl fun K hK => ?_
  go_simp
  have hk4 := (Mod.refl (fun _ => False) W10).alloc (.cells #[.int .u64 (f.id : Int), .int .u64 (f.a : Int)] 26)
  have hI := ints_lit W10 [f.id, f.a] #[.int .u64 (f.id : Int), .int .u64 (f.a : Int)] 2 26 rfl rfl (by decide)
  refine hK.out _ _ ⟨hS.1.kept hk4, hS.2.trans hk4⟩ (fun hS => ?_)
  clear hK K
  generalize hg4 : W10.alloc (.cells #[.int .u64 (f.id : Int), .int .u64 (f.a : Int)] 26) = W4 at *
  refine wpAnyH_ready (rs := [5]) (by kernel_rfl) (by simp) ?_
  refine arH rfl fun K hK => ?_
  go_simp
  refine (ints_any (hS.2.tabs HT.out (fun h => h)) hI (by simp)).mono ?_
  rintro e W5 ⟨v1, rfl, ho1, hk5⟩
  have hb1 := ho1.byts
  obtain ⟨a1, c1, rfl, _⟩ := byts_val hb1
  refine hK.out _ _ ⟨hS.1.kept hk5, hS.2.trans hk5⟩ (fun hS => ?_)
  clear hK K
  refine wpAnyH_ready (rs := [15]) (by kernel_rfl) (by simp) ?_
  refine arH rfl fun K hK => ?_
  go_simp
  have hk15 := (Mod.refl (fun _ => False) W5).alloc (.cells #[.slice a1 (intsL [f.id, f.a]).length c1, .slice (some ⟨W0.heap.size, 0, none⟩) 1 1, .slice da nd dc, .slice (some ⟨w.heap.size, 8, none⟩) 16 16] 42)
  have hP := Blk.new W5 #[.slice a1 (intsL [f.id, f.a]).length c1, .slice (some ⟨W0.heap.size, 0, none⟩) 1 1, .slice da nd dc, .slice (some ⟨w.heap.size, 8, none⟩) 16 16] 42
  have hbd := byts_kept HV.out.d hS.2
  have hbt := hS.1.byts
  have hC := concat4 hP (byts_kept (hb1) hk15) (byts_kept (byts_kept (byts_kept hB hk4) hk5) hk15) (byts_kept hbd hk15) (byts_kept hbt hk15) rfl HLB.out HPOS.out
  refine hK.out _ _ ⟨hS.1.kept hk15, hS.2.trans hk15⟩ (fun hS => ?_)
  clear hK K
  refine wpAnyH_ready (rs := [16]) (by kernel_rfl) (by simp) ?_
  refine arH rfl fun K hK => ?_
  go_simp
  refine hC.mono ?_
  rintro e X9 ⟨v9, rfl, ho9, hk9⟩
  refine hK.out _ _ ⟨hS.1.kept hk9, hS.2.trans hk9⟩ (fun hS => ?_)
  clear hK K
  refine wpAnyH_ready (rs := [17]) (by kernel_rfl) (by simp) ?_
  refine arH rfl fun K hK => ?_
  go_simp
  refine hK.out _ _ hS (fun hS => ?_)
  clear hK K
  refine wpAnyH_done (by kernel_rfl) ?_ _
  have HB := Lib.hid ho9.byts
  have HM9 := Lib.hid hS.2
  obtain ⟨a9, c9, rfl, _⟩ := byts_val ho9.byts
  generalize (intsL [f.id, f.a] ++ [UInt8.ofNat nd] ++ f.d ++ f.t).length = n at *
  clear hS ho9 hk9 hC hP hk15 hbd hbt
  go_wp2_with fail
  go_ret
  exact ⟨_, rfl, HB.out, HM9.out⟩
end Go.Proofs.YtolgeghdkoodnaaGreatDoor
