/- Parts of the proof: PaA GaK GaL GaM GaN GaP. -/
import Derived.Test.YtahgidkpjmecdaaGreatDoorB02
import Derived.Test.YtahgidkpjmecdaaGreatDoorB03
import Derived.Test.YtahgidkpjmecdaaGreatDoorB04
import Derived.Deep.AppendSrc
set_option maxRecDepth 100000
namespace Go.Proofs.YtahgidkpjmecdaaGreatDoor
open Go.RowKit
theorem zc (n : Nat) : (Builtin.zeroCells (Value.int .u8 0).cells n).toList = (List.replicate n (0 : UInt8)).map bv := by
 apply List.ext_getElem
 ·simp [Builtin.zeroCells, Value.cells]
 ·intro k h1 h2
  simp [Builtin.zeroCells, Value.cells, bv, Nat.mod_one]
theorem zeros_grow (w : World) (n : Nat) (ty : TypeId) (hn : (n : Int) ≤ 100000) (base : Option Addr) (sLen sCap : Nat) (olds : List Value) (hold : (Builtin.firstCells 1 sLen (.slice base sLen sCap)).run Tryz.prog w.drew = .ok olds.toArray w.drew)
  (hg : sCap < sLen + n) (hfit : Builtin.nextslicecap (sLen + n) sCap ≤ 281474976710656) (hs : (sLen : Int) ≤ 140737488355328) :
  (Builtin.append_ #[31, 3] ty #[.slice base sLen sCap, .int .i64 (n : Int)]).run Tryz.prog w =
   .ok (.slice (some ⟨w.heap.size, 0, none⟩) (sLen + n) (grownCap w (sLen + n) sCap 5))
    (w.drew.alloc (.cells ((olds ++ (List.replicate n (0 : UInt8)).map bv).toArray ++ Builtin.zeroCells (Value.int .u8 0).cells (grownCap w (sLen + n) sCap 5 - (sLen + n))) 5)) := by
 obtain ⟨i0, hi, hz0, hz1, hz2⟩ := info_parts Tryz.info5
 have hw : IntKind.i64.wrap (n : Int) = n := IntWalk.i64_in _ (by omega)
 have h1 : ¬ ((n : Int) < 0) := by omega
 have h2 : ¬ (281474976710656 < (n : Int)) := by omega
 have hn' : ¬ (sLen + n ≤ sCap) := by omega
 have h63' : ¬ (9223372036854775807 < ((sLen : Int) + (n : Int))) := by omega
 have h48' : ¬ (281474976710656 < Builtin.nextslicecap (sLen + n) sCap) := by omega
 by_cases h0 : n = 0
 ·have hr : List.replicate n (0 : UInt8) = [] := by rw [h0]; rfl
  have HZ : Hid (n = 0) := h0
  rw [hr]
  clear h0 hr
  simp [Builtin.append_, run_underlying Tryz.underlying31, run_underlying Tryz.underlying3, sizeOf, typeInfo, hi, hz1, hz2, zeroValue, hz0, hw, asInt, asIntOf, h1, h2, hn', h63', h48', Question.forced, hold, newRow, grownCap]
  intro hne; exact absurd HZ.out hne
 ·simp [Builtin.append_, run_underlying Tryz.underlying31, run_underlying Tryz.underlying3, sizeOf, typeInfo, hi, hz1, hz2, zeroValue, hz0, hw, asInt, asIntOf, h1, h2, h0, hn', h63', h48', Question.forced, hold, newRow, grownCap]
  congr 2
  apply Array.ext'
  simp [List.append_assoc, zc]
theorem wpList_append_nz {w : World} {ops : Array Oper} {rest : List Oper} {o : Oper} {a : Act} {Q : Exit → Act → World → Prop} (hgd : o.guard = none) (s x : Operand)
  (ho : o.op = .call { callee := .builtin .append, args := #[s, x], argTypes := #[31, 3] })
  (n : Nat) (hs : a.eval s = .slice none 0 0) (hx : a.eval x = .int .i64 (n : Int)) (hn : (n : Int) ≤ 100000) (h0 : 0 < n)
  (h : ∀ cap w', n ≤ cap → OwnB w' w.heap.size (.slice (some ⟨w.heap.size, 0, none⟩) 0 cap) [] → Mod (fun _ => False) w w' → wpList Tryz.prog ops Q rest (a.put o.dst (.slice (some ⟨w.heap.size, 0, none⟩) n cap)) w') : wpList Tryz.prog ops Q (o :: rest) a w := by
 have hbig : Builtin.nextslicecap (0 + n) 0 ≤ 281474976710656 := by
  have := growslice_fits (need := 0 + n) (old := 0) (bytes := 1) (by omega) (by omega)
  omega
 have hr := zeros_grow w n o.type hn none 0 0 [] (by simp [Builtin.firstCells]) (by omega) hbig (by omega)
 have hge := grownCap_ge w (0 + n) 0 5
 have hle := grownCap_le_maxLen w (0 + n) 0 5 (by unfold maxLen; omega)
 generalize grownCap w (0 + n) 0 5 = cap at *
 rw [Nat.zero_add] at hr hge
 refine wpList_plain hgd fun K hK => ?_
 unfold Oper.wp
 simp [execOp, ho, resolve, invoke, builtin, hs, hx, hr, Result.andThen]
 refine hK _ _ (h cap _ hge ⟨rfl, .inr ⟨w.heap.size, cap, _, rfl, Nat.le_refl _, heap_alloc_new w.drew _, Nat.zero_le _, hle, ?_, ?_⟩⟩ ⟨rfl, rfl, rfl, by simp, fun k hk _ => (Go.RowKit.Below.heap_alloc w.drew _ k hk)⟩)
 ·simp [Builtin.zeroCells, Value.cells]; omega
 ·simp
set_option maxRecDepth 10000 in
theorem grow_any (n : Nat) (w : World) (hn : (n : Int) ≤ 100000) (h0 : 0 < n) :
  Calls Tryz.prog 85 #[.slice none 0 0, .int .i64 (n : Int)] w fun e w' => ∃ g cap, e = .returned (.slice (some ⟨g, 0, none⟩) 0 cap) ∧ n ≤ cap ∧ OwnB w' w.heap.size (.slice (some ⟨g, 0, none⟩) 0 cap) [] ∧ Mod (fun _ => False) w w' := by
 have h0i : (0 : Int) < n := by omega
 have H0 := Lib.hid h0
 clear h0
 go_enter Tryz.func85, Tryz.ntmps85
 go_wp2_with (at_builtin; go_must (refine wpList_append_nz rfl _ _ rfl n (by rfl) (by rfl) hn H0.out ?_); intro cap w1 hcap ho hM)
 go_ret
 exact ⟨_, _, rfl, hcap, ho, hM⟩
def Parts (w : World) (b o : Nat) (ls : List (List UInt8)) : Prop := ∀ i l, ls[i]? = some l → ∃ p cap, w.cell? ⟨b, o + i, none⟩ = some (.slice p l.length cap) ∧ Byts w (.slice p l.length cap) l
theorem Parts.kept {w w' : World} {b o : Nat} {ls : List (List UInt8)} (h : Parts w b o ls) (hM : Mod (fun _ => False) w w') : Parts w' b o ls := by
 intro i l hl
 obtain ⟨p, cap, h1, h2⟩ := h i l hl
 exact ⟨p, cap, hM.cellAt h1 (fun h => h), h2.kept hM (fun _ _ h => h)⟩
theorem flat_snoc (ls : List (List UInt8)) (i : Nat) (l : List UInt8) (h : ls[i]? = some l) : (ls.take (i + 1)).flatten = (ls.take i).flatten ++ l := by
 rw [List.take_add_one, h]; simp
theorem flat_le (ls : List (List UInt8)) (i : Nat) : (ls.take i).flatten.length ≤ ls.flatten.length := by
 have e := congrArg (fun x => x.flatten.length) (List.take_append_drop i ls)
 simp only [List.flatten_append, List.length_append] at e
 omega
set_option maxHeartbeats 2000000 in
set_option maxRecDepth 10000 in
theorem concat_any {w : World} {b o c n : Nat} {ls : List (List UInt8)} (hn : ls.length = n) (_hcap : n ≤ c) (hP : Parts w b o ls) (hlen : (ls.flatten.length : Int) ≤ 100000) (hpos : 0 < ls.flatten.length) (hni : (n : Int) ≤ 1000) :
  Calls Tryz.prog 47 #[.slice (some ⟨b, o, none⟩) n c] w fun e w' => ∃ v', e = .returned v' ∧ OwnB w' w.heap.size v' ls.flatten ∧ Mod (fun _ => False) w w' := by
 have HP := Lib.hid hP
 have HN := Lib.hid hn
 have HPos := Lib.hid hpos
 obtain ⟨T, hT⟩ : ∃ T, T = ls.flatten.length := ⟨_, rfl⟩
 rw [← hT] at hlen
 have HT := Lib.hid hT
 clear hP hn hT hpos
 go_enter Tryz.func47, Tryz.ntmps47
 go_wp2
 go_loop [3, 11, 5] (fun s3 s11 s5 => ∃ i : Nat, i ≤ n ∧ s11 = .int .i64 i ∧ s3 = .int .i64 ((ls.take i).flatten.length : Nat)) (fun _ i _ => n - (intOf i).toNat)
 case atStart => exact ⟨0, Nat.zero_le _, rfl, rfl⟩
 case round =>
  obtain ⟨i, hi, rfl, rfl⟩ := hrel
  by_cases hlt : (i : Int) < n
  ·have hil : i < ls.length := by have := HN.out; omega
   have e1 : ls[i]? = some ls[i] := List.getElem?_eq_getElem hil
   obtain ⟨p, cap, hc, _⟩ := HP.out i _ e1
   have hs := Lib.hid (flat_snoc ls i _ e1)
   have hle := flat_le ls (i + 1)
   generalize ls[i] = l at *
   rw [hs.out, List.length_append, ← HT.out] at hle
   have HS : Hid ((ls.take (i + 1)).flatten.length = (ls.take i).flatten.length + l.length) := by show _ = _; rw [hs.out, List.length_append]
   have hbs : ((ls.take i).flatten.length : Int) + l.length ≤ 100000 := by omega
   have hge : ¬ (((ls.take i).flatten.length : Int) + l.length < 0) := by omega
   clear e1 hil hs hle
   generalize (ls.take i).flatten.length = acc at *
   generalize l.length = k at *
   go_wp2
   go_round
   case rel => exact ⟨i + 1, by omega, by go_num, by rw [HS.out]; first | rfl | (push_cast; rfl)⟩
   case measure => simp [intOf]; omega
  ·obtain rfl : n = i := by omega
   have hall : ls.take n = ls := by rw [← HN.out, List.take_length]
   rw [hall, ← HT.out]
   have HG := Lib.hid (grow_any T w hlen (by have := HPos.out; have := HT.out; omega))
   go_wp2_with (go_at_call 85; refine (HG.out).mono ?_; rintro e w1 ⟨g, cap, rfl, hcap', ho, hM⟩)
   have HO := Lib.hid ho
   have HM := Lib.hid hM
   clear ho hM
   go_loopw [6, 8, 27] (fun s6 s8 s27 wr => ∃ j : Nat, j ≤ n ∧ s27 = .int .i64 j ∧ ∃ ap cp, s6 = .slice ap ((ls.take j).flatten.length) cp ∧ Hid (OwnB wr w.heap.size (.slice ap ((ls.take j).flatten.length) cp) (ls.take j).flatten ∧ Mod (fun _ => False) w wr)) (fun _ _ s27 _ => n - (intOf s27).toNat)
   case atStart => exact ⟨0, by omega, rfl, _, _, rfl, ⟨HO.out, HM.out⟩⟩
   case round =>
    clear HO HM HG
    obtain ⟨j, hj, rfl, ap, cp, rfl, HR⟩ := hrel
    by_cases hjn : (j : Int) < n
    ·have hil : j < ls.length := by have := HN.out; omega
     have e1 : ls[j]? = some ls[j] := List.getElem?_eq_getElem hil
     obtain ⟨p, cap1, hc, hby⟩ := HP.out j _ e1
     have hs := Lib.hid (flat_snoc ls j _ e1)
     have hle := flat_le ls (j + 1)
     generalize ls[j] = l at *
     rw [hs.out, List.length_append, ← HT.out] at hle
     have HS : Hid ((ls.take (j + 1)).flatten.length = (ls.take j).flatten.length + l.length) := by show _ = _; rw [hs.out, List.length_append]
     have HB := Lib.hid (byts_kept hby HR.out.2)
     have hcw : wr.cell? ⟨b, o + j, none⟩ = some (.slice p l.length cap1) := HR.out.2.cellAt hc (fun h => h)
     have hb2 : Hid (((ls.take (j + 1)).flatten.length : Int) ≤ 140737488355328) := by show _ ≤ _; rw [HS.out]; omega
     clear e1 hil hle hby hc
     generalize (ls.take j).flatten = acc at *
     obtain ⟨acc', hacc⟩ : ∃ x, x = (ls.take (j + 1)).flatten := ⟨_, rfl⟩
     rw [← hacc] at hs HS hb2
     have HACC := Lib.hid hacc
     clear hacc
     go_wp2_with (at_builtin; go_must (refine wpList_append_b rfl _ _ rfl (.slice ap acc.length cp) acc w.heap.size acc'.length (by rfl) HR.out.1 _ l (by rfl) HB.out acc' hs.out HS.out.symm hb2.out HR.out.2.size ?_); intro ap2 cp2 w2 hA)
     go_roundw
     case rel => exact ⟨j + 1, by omega, by go_num, ap2, cp2, by rw [← HACC.out], ⟨by rw [← HACC.out]; exact hA.own, hA.modF HR.out.2 (Nat.le_refl _)⟩⟩
     case measure => simp [intOf]; omega
    ·obtain rfl : n = j := by omega
     rw [hall] at HR ⊢
     obtain ⟨F, hF⟩ : ∃ F, F = ls.flatten := ⟨_, rfl⟩
     rw [← hF] at HR ⊢
     have HF := Lib.hid hF
     clear hF
     go_wp2
     go_ret
     refine ⟨_, rfl, ?_, HR.out.2⟩
     rw [← HF.out]
     exact HR.out.1
def Puts (fn : Nat) (w : World) (f : Fr) (vd vr : Value) (L : List UInt8) : Prop := Calls Tryz.prog fn #[frV f vd vr] w fun e w' => ∃ v, e = .returned v ∧ Byts w' v L ∧ Mod (fun _ => False) w w'
theorem ints_lit2 (w : World) (o : Obj) (ns : List Nat) (cs : Array Value) (n : Nat) (T : TypeId) (hc : cs = (ns.map uv).toArray) (hn : ns.length = n) (hm : n ≤ maxLen) : Ints ((w.alloc o).alloc (.cells cs T)) (.slice (some ⟨w.heap.size + 1, 0, none⟩) n n) ns := by
 have h := ints_lit (w.alloc o) ns cs n T hc hn hm
 rw [show (w.alloc o).heap.size = w.heap.size + 1 by simp] at h
 exact h
set_option maxRecDepth 10000 in
theorem put10 {w : World} {f : Fr} {vd vr : Value} (hT : Tabs w) : Puts 150 w f vd vr (putL f.a) := by
 unfold Puts
 rw [show putL f.a = intsL [f.a] by simp [intsL]]
 have e2 : (frC f vd vr)[2]? = some (.int .u64 (f.a : Int)) := rfl
 have hM := ((Mod.refl (fun _ => False) w).alloc (.cells (frC f vd vr) 91)).alloc (.cells #[.int .u64 (f.a : Int)] 34)
 have HI := Lib.hid (ints_any (hM.tabs hT (fun h => h)) (ints_lit2 w (.cells (frC f vd vr) 91) [f.a] #[.int .u64 (f.a : Int)] 1 34 rfl rfl (by decide)) (by simp))
 have HM := Lib.hid hM
 unfold frV
 clear hT hM
 generalize frC f vd vr = C at *
 generalize intsL [f.a] = L at *
 generalize (f.a : Int) = xa at *
 go_enter Tryz.func150, Tryz.ntmps150
 go_wp2_with fail
 refine (HI.out).mono ?_
 rintro e w1 ⟨v, rfl, ho, hM1⟩
 have HO := Lib.hid ho.byts
 obtain ⟨a1, c1, rfl, _⟩ := byts_val ho.byts
 have HM1 := Lib.hid hM1
 clear ho hM1 HI
 generalize L.length = n at *
 go_wp2_with fail
 go_ret
 exact ⟨_, rfl, HO.out, HM.out.trans HM1.out⟩
set_option maxRecDepth 10000 in
theorem put11 {w : World} {f : Fr} {vd vr : Value} (hT : Tabs w) : Puts 151 w f vd vr (putL f.id ++ putL f.a) := by
 unfold Puts
 rw [show putL f.id ++ putL f.a = intsL [f.id, f.a] by simp [intsL]]
 have e1 : (frC f vd vr)[1]? = some (.int .u64 (f.id : Int)) := rfl
 have e2 : (frC f vd vr)[2]? = some (.int .u64 (f.a : Int)) := rfl
 have hM := ((Mod.refl (fun _ => False) w).alloc (.cells (frC f vd vr) 91)).alloc (.cells #[.int .u64 (f.id : Int), .int .u64 (f.a : Int)] 34)
 have HI := Lib.hid (ints_any (hM.tabs hT (fun h => h)) (ints_lit2 w (.cells (frC f vd vr) 91) [f.id, f.a] #[.int .u64 (f.id : Int), .int .u64 (f.a : Int)] 2 34 rfl rfl (by decide)) (by simp))
 have HM := Lib.hid hM
 unfold frV
 clear hT hM
 generalize frC f vd vr = C at *
 generalize intsL [f.id, f.a] = L at *
 generalize (f.id : Int) = xid at *
 generalize (f.a : Int) = xa at *
 go_enter Tryz.func151, Tryz.ntmps151
 go_wp2_with fail
 refine (HI.out).mono ?_
 rintro e w1 ⟨v, rfl, ho, hM1⟩
 have HO := Lib.hid ho.byts
 obtain ⟨a1, c1, rfl, _⟩ := byts_val ho.byts
 have HM1 := Lib.hid hM1
 clear ho hM1 HI
 generalize L.length = n at *
 go_wp2_with fail
 go_ret
 exact ⟨_, rfl, HO.out, HM.out.trans HM1.out⟩
set_option maxRecDepth 10000 in
theorem put20 {w : World} {f : Fr} {vd vr : Value} (hT : Tabs w) : Puts 164 w f vd vr (putL f.id ++ putL f.c ++ putL f.a) := by
 unfold Puts
 rw [show putL f.id ++ putL f.c ++ putL f.a = intsL [f.id, f.c, f.a] by simp [intsL]]
 have e1 : (frC f vd vr)[1]? = some (.int .u64 (f.id : Int)) := rfl
 have e4 : (frC f vd vr)[4]? = some (.int .u64 (f.c : Int)) := rfl
 have e2 : (frC f vd vr)[2]? = some (.int .u64 (f.a : Int)) := rfl
 have hM := ((Mod.refl (fun _ => False) w).alloc (.cells (frC f vd vr) 91)).alloc (.cells #[.int .u64 (f.id : Int), .int .u64 (f.c : Int), .int .u64 (f.a : Int)] 34)
 have HI := Lib.hid (ints_any (hM.tabs hT (fun h => h)) (ints_lit2 w (.cells (frC f vd vr) 91) [f.id, f.c, f.a] #[.int .u64 (f.id : Int), .int .u64 (f.c : Int), .int .u64 (f.a : Int)] 3 34 rfl rfl (by decide)) (by simp))
 have HM := Lib.hid hM
 unfold frV
 clear hT hM
 generalize frC f vd vr = C at *
 generalize intsL [f.id, f.c, f.a] = L at *
 generalize (f.id : Int) = xid at *
 generalize (f.c : Int) = xc at *
 generalize (f.a : Int) = xa at *
 go_enter Tryz.func164, Tryz.ntmps164
 go_wp2_with fail
 refine (HI.out).mono ?_
 rintro e w1 ⟨v, rfl, ho, hM1⟩
 have HO := Lib.hid ho.byts
 obtain ⟨a1, c1, rfl, _⟩ := byts_val ho.byts
 have HM1 := Lib.hid hM1
 clear ho hM1 HI
 generalize L.length = n at *
 go_wp2_with fail
 go_ret
 exact ⟨_, rfl, HO.out, HM.out.trans HM1.out⟩
theorem gaps_len : ∀ (l : List (Nat × Nat)) (p : Nat), (gapsL p l).length ≤ 16 * l.length
 | [], p => by simp [gapsL]
 | x :: l, p => by
  have h := gaps_len l x.1
  have h1 := putL_len (p - x.2 - 2)
  have h2 := putL_len (x.2 - x.1)
  rw [gapsL, List.length_append, List.length_append, List.length_cons]
  omega
theorem OwnB.apart {w : World} {B b : Nat} {v : Value} {l : List UInt8} {C : Array Value} {T : TypeId} (h : OwnB w B v l) (hb : Blk w b C T) (ht : T ≠ 5) : ¬ v.ownBlock = some b := by
 intro e
 rcases h.2 with ⟨rfl, _⟩ | ⟨g, cap, cur, rfl, _, hg, _⟩
 ·simp [Value.ownBlock] at e
 ·simp [Value.ownBlock] at e
  subst e
  exact Blk.ne hb (show Blk w g cur 5 from hg) ht rfl
def ackUp (b : Nat) (x : Nat × Nat) (l : List (Nat × Nat)) (k : Nat) : List UInt8 := intsL [x.2, b, l.length, x.2 - x.1] ++ gapsL x.1 (l.take k)
theorem ackUp_all (b : Nat) (x : Nat × Nat) (l : List (Nat × Nat)) : ackUp b x l l.length = ackL b (x :: l) := by
 unfold ackUp ackL
 rw [List.take_length]
 simp [intsL]
theorem ackUp_len (b : Nat) (x : Nat × Nat) (l : List (Nat × Nat)) (k : Nat) (hl : l.length ≤ 100) : (ackUp b x l k).length ≤ 2000 := by
 unfold ackUp
 have h1 := intsL_len [x.2, b, l.length, x.2 - x.1]
 have h2 := gaps_len (l.take k) x.1
 have h3 : (l.take k).length ≤ 100 := by rw [List.length_take]; omega
 simp only [List.length_append, List.length_cons, List.length_nil] at h1 ⊢
 omega
end Go.Proofs.YtahgidkpjmecdaaGreatDoor
set_option maxRecDepth 100000
namespace Go.Proofs.YtahgidkpjmecdaaGreatDoor
open Go.RowKit Go.Maps
theorem bit_yes (n : Int) (w : World) : Calls Tryz.prog 96 #[.bool true, .int .i64 n] w fun e w' => w = w' ∧ e = .returned (.int .i64 n) := by
 go_enter Tryz.func96, Tryz.ntmps96
 go_wp2
 go_ret
 exact ⟨rfl, rfl⟩
theorem bit_no (n : Int) (w : World) : Calls Tryz.prog 96 #[.bool false, .int .i64 n] w fun e w' => w = w' ∧ e = .returned (.int .i64 0) := by
 go_enter Tryz.func96, Tryz.ntmps96
 go_wp2
 go_ret
 exact ⟨rfl, rfl⟩
def bitN (b : Bool) (n : Int) : Int := bif b then n else 0
theorem bit_any (b : Bool) (n : Int) (w : World) : Calls Tryz.prog 96 #[.bool b, .int .i64 n] w fun e w' => w = w' ∧ e = .returned (.int .i64 (bitN b n)) := by
 cases b
 ·exact bit_no n w
 ·exact bit_yes n w
set_option maxRecDepth 10000 in
theorem fput_no {w : World} {f : Fr} {vd vr : Value} (hv : FrV w f vd vr) (hrl : (f.rs.length : Int) ≤ 100000) (hok : okKey f.k) (hro : RngOk f) (hr : rightF f = false) :
  Calls Tryz.prog 54 #[frV f vd vr] w fun e w' => ∃ v, e = .returned v ∧ OwnB w' w.heap.size v (fputL f) ∧ Mod (fun _ => False) w w' := by
 have hM := (Mod.refl (fun _ => False) w).alloc (.cells (frC f vd vr) 91)
 have HR := Lib.hid (right_any (hv.kept hM) hrl hok hro)
 rw [hr] at HR
 rw [show fputL f = [] by unfold fputL; rw [hr]; rfl]
 have HW := Lib.hid (loadWhole w f vd vr hv.t)
 have HM := Lib.hid hM
 clear hv hrl hok hro hr hM
 unfold frV at *
 generalize frC f vd vr = C at *
 go_enter Tryz.func54, Tryz.ntmps54
 go_wp2_with (first
  | ((with_reducible refine wpList_load_v 91 (.tmp 1) ?_ ?_ (.pointer (some ⟨w.heap.size, 0, none⟩)) (.agg C) ?_ (HW.out _ rfl) ?_); (iterate 3 exact rfl))
  | fail)
 refine (HR.out).mono ?_
 rintro e w1 ⟨rfl, hM1⟩
 go_wp2_with fail
 go_ret
 exact ⟨_, rfl, OwnB.nil _ _, HM.out.trans hM1⟩
theorem field2 (w : World) (a b c : Nat) (v : Value) (hv : v.oneCell' = true) : (Instr.field 170 (.agg #[fnV a, fnV b, fnV c, v]) 2).run Tryz.prog w = .ok (.func (.func c) #[] #[]) w := by
 cases v <;> first | (exact absurd hv (by decide)) | kernel_rfl
theorem tag_own (w : World) (B : Nat) {z : Int} {n : Nat} (hz : (n : Int) = z) (hn : n ≤ 255) (hB : B ≤ w.heap.size) : OwnB (w.alloc (.cells #[.int .u8 z] 5)) B (.slice (some ⟨w.heap.size, 0, none⟩) 1 1) [UInt8.ofNat n] := by
 refine own_lit w [UInt8.ofNat n] _ 1 B ?_ rfl (by decide) hB
 have e : (UInt8.ofNat n).toNat = n := UInt8.toNat_ofNat_of_lt' (by show _ < 256; omega)
 simp [bv, e, hz]
set_option maxHeartbeats 16000000 in
set_option maxRecDepth 10000 in
theorem fput_plain {w : World} {f : Fr} {vd vr : Value} (hv : FrV w f vd vr) (hrl : (f.rs.length : Int) ≤ 100000) (hok : okKey f.k) (hro : RngOk f) (hr : rightF f = true) {n : Nat} {body : List UInt8} (h8 : f.k ≠ 8) (h18 : f.k ≠ 18) (h22 : f.k ≠ 22) (h28 : f.k ≠ 28) (hz0 : (n : Int) = f.k) (hn : n = tagN f) (hn255 : n ≤ 255) (hbody : bodyN f.k.toNat f = body) (hbl : body.length ≤ 100000)
  {fn1 fn2 fn3 : Nat} {v4 : Value} (hkf : kindsF f.k = some (.agg #[fnV fn1, fnV fn2, fnV fn3, v4])) (hp : ∀ X, Mod (fun _ => False) w X → Puts fn3 X f vd vr body) (en3 : Enter fn3) (o4 : v4.oneCell' = true) :
  Calls Tryz.prog 54 #[frV f vd vr] w fun e w' => ∃ v, e = .returned v ∧ OwnB w' w.heap.size v (fputL f) ∧ Mod (fun _ => False) w w' := by
 have hM := (Mod.refl (fun _ => False) w).alloc (.cells (frC f vd vr) 91)
 have HR := Lib.hid (right_any (hv.kept hM) hrl hok hro)
 rw [hr] at HR
 rw [show fputL f = UInt8.ofNat n :: body by unfold fputL; rw [if_pos hr, ← hn, hbody]]
 have HW := Lib.hid (loadWhole w f vd vr hv.t)
 have HF0 := Lib.hid (FrB.new w f vd vr hv.t)
 have HM := Lib.hid hM
 have HKF := Lib.hid hkf
 have HOK := Lib.hid hok
 have HP := Lib.hid hp
 have O4 := Lib.hid o4
 have H16 := Lib.hid hv.t
 have HZ := Lib.hid hn255
 have HLEN : Hid ((([UInt8.ofNat n].length + body.length : Nat) : Int) ≤ 140737488355328) := by show _ ≤ _; simp; omega
 have e0 : (frC f vd vr)[0]? = some (.int .i64 f.k) := rfl
 have e5 : (frC f vd vr)[5]? = some (.bool f.fl) := rfl
 obtain ⟨z, hz⟩ : ∃ z : Int, (n : Int) = z := ⟨_, rfl⟩
 have HZN := Lib.hid hz
 have hzw : IntKind.u8.wrap z = z := IntWalk.u8_in _ (by omega)
 obtain rfl : f.k = z := by omega
 have t8 : (f.k != 8) = true := by simpa using h8
 have t18 : (f.k == 18) = false := by simpa using h18
 have t22 : (f.k == 22) = false := by simpa using h22
 have t28 : (f.k == 28) = false := by simpa using h28
 clear h8 h18 h22 h28 hz0
 unfold Enter at en3
 clear hv hrl hok hro hr hM hkf hp o4 hn hbody hbl hz hn255
 unfold frV at *
 go_enter Tryz.func54, Tryz.ntmps54
 go_wp2_with (first
  | ((with_reducible refine wpList_load_v 91 (.tmp 1) ?_ ?_ (.pointer (some ⟨w.heap.size, 0, none⟩)) (.agg (frC f vd vr)) ?_ (HW.out _ rfl) ?_); (iterate 3 exact rfl))
  | fail)
 refine (HR.out).mono ?_
 rintro e w1 ⟨rfl, hM1⟩
 have HM1 := Lib.hid (HM.out.trans hM1)
 have HF1 := Lib.hid (HF0.out.kept hM1)
 have c0 := HF1.out.cells.1
 have c5 := HF1.out.cells.2.2.2.2.2.1
 clear hM1 e0 e5
 go_upto_region 7 with (first
  | (go_at_call 96; refine (bit_any _ _ _).mono ?_; rintro e w' ⟨rfl, rfl⟩)
  | fail)
 go_cut [2] (fun s2 wx => ∃ ap cp, s2 = .slice ap ([UInt8.ofNat n].length + body.length) cp ∧ Hid (OwnB wx w.heap.size (.slice ap ([UInt8.ofNat n].length + body.length) cp) (UInt8.ofNat n :: body) ∧ Mod (fun _ => False) w wx))
 case first =>
  refine wp_region_held_drew (S := fun X => FrB X w.heap.size f vd vr ∧ Mod (fun _ => False) w X) (by kernel_rfl) ⟨HF1.out.kept (Mod.refl _ _).drew, HM1.out.drew⟩ (fun hS => ?_)
  refine tk 0 (.int .i64 (f.k)) (some 31) rfl rfl (by kernel_rfl) (fun _ _ _ => id) (Or.inl ⟨by rfl, fun X hX => ?_⟩) hS ?_
  ·go_simp
  (try go_frame); refine tk 1 (.int .u8 (f.k)) (some 32) rfl rfl (by kernel_rfl) (fun _ _ _ => id) (Or.inl ⟨by rfl, fun X hX => ?_⟩) hS ?_
  ·go_simp
  (try go_frame); refine tk 4 (.pointer (some ⟨w.heap.size, 0, none⟩)) (some 35) rfl rfl (by kernel_rfl) (fun _ _ _ => id) (Or.inl ⟨by rfl, fun X hX => ?_⟩) hS ?_
  ·go_simp
  (try go_frame); refine tk 5 (.int .i64 f.k) (some 36) rfl rfl (by kernel_rfl) (fun _ _ _ => id) (Or.inl ⟨by rfl, fun X hX => ?_⟩) hS ?_
  ·have := hX.1.cells.1; go_simp
  (try go_frame); refine tk 8 (frV f vd vr) (some 39) rfl rfl (by kernel_rfl) (fun _ _ _ => id) (Or.inl ⟨by rfl, fun X hX => ?_⟩) hS ?_
  ·exact exec_load' rfl (p := .pointer (some ⟨w.heap.size, 0, none⟩)) (by rfl) (blk_loadAt hX.1)
  (try go_frame)
  generalize w1.drew = W0 at *
  refine wpAnyH_ready (rs := [2, 3]) (by kernel_rfl) (by simp) ?_
  refine AllReadyH.cons rfl (fun K hK => ?_) (AllReadyH.cons rfl (fun K hK => ?_) AllReadyH.nil)
  ·skip
   go_simp
   have hk2 := (Mod.refl (fun _ => False) W0).alloc (.cells #[.int .u8 f.k] 5)
   have hO := tag_own W0 w.heap.size HZN.out HZ.out hS.2.size
   refine hK.out _ _ ⟨hS.1.kept hk2, hS.2.trans hk2⟩ (fun hS => ?_)
   clear hK K
   generalize hg2 : W0.alloc (.cells #[.int .u8 f.k] 5) = W2 at *
   refine wpAnyH_ready (rs := [3]) (by kernel_rfl) (by simp) ?_
   refine arH rfl fun K hK => ?_
   go_simp
   refine (kinds_any _).mono ?_
   rintro e W3 ⟨mb, rfl, hV, hk3⟩
   refine hK.out _ _ ⟨hS.1.kept hk3, hS.2.trans hk3⟩ (fun hS => ?_)
   clear hK K
   refine wpAnyH_ready (rs := [6]) (by kernel_rfl) (by simp) ?_
   refine arH rfl fun K hK => ?_
   have hlk := hV.look (t := 171) (e := 170) HOK.out Tryz.underlying171 (zero_kind W3)
   rw [HKF.out] at hlk
   simp only [Option.getD_some] at hlk
   go_simp
   refine hK.out _ _ hS (fun hS => ?_)
   clear hK K
   refine tk 7 (.func (.func fn3) #[] #[]) (some 38) rfl rfl (by kernel_rfl) (fun _ _ _ => id) (Or.inl ⟨by rfl, fun X hX => ?_⟩) hS ?_
   ·have := field2 X fn1 fn2 fn3 v4 O4.out; go_simp
   (try go_frame); refine wpAnyH_ready (rs := [9]) (by kernel_rfl) (by simp) ?_
   refine arH rfl fun K hK => ?_
   go_simp
   refine (HP.out W3 hS.2).mono ?_
   rintro e W9 ⟨vb, rfl, hb9, hk9⟩
   obtain ⟨a9, c9, rfl, _⟩ := byts_val hb9
   refine hK.out _ _ ⟨hS.1.kept hk9, hS.2.trans hk9⟩ (fun hS => ?_)
   clear hK K
   refine wpAnyH_ready (rs := [10]) (by kernel_rfl) (by simp) ?_
   refine arH rfl fun K hK => ?_
   refine step_append_b rfl (.tmp 33) (.tmp 40) rfl (.slice (some ⟨W0.heap.size, 0, none⟩) 1 1) [UInt8.ofNat n] w.heap.size _ (by rfl) ((hO.keptF hk3).keptF hk9) (.slice a9 body.length c9) body (by rfl) hb9 (UInt8.ofNat n :: body) rfl rfl HLEN.out hS.2.size ?_
   intro ap cp X3 hA
   (try go_frame)
   have hM3 : Mod (fun _ => False) w X3 := hA.modF hS.2 (Nat.le_refl _)
   have hB3 := (hA.mod (w0 := W9) (S := fun k => (Value.slice (some ⟨W0.heap.size, 0, none⟩) 1 1).ownBlock = some k) (Mod.refl _ _) (fun g hg _ => hg)).blk hS.1.blk (OwnB.apart ((hO.keptF hk3).keptF hk9) hS.1.blk (by decide))
   refine hK.out _ _ ⟨⟨hB3, H16.out⟩, hM3⟩ (fun hS => ?_)
   clear hK K
   refine wpAnyH_ready (rs := [11]) (by kernel_rfl) (by simp) ?_
   refine arH rfl fun K hK => ?_
   go_simp
   refine hK.out _ _ hS (fun hS => ?_)
   clear hK K
   refine wpAnyH_done (by kernel_rfl) ?_ _
   go_wp2_with fail
   go_meet
   exact ⟨ap, cp, rfl, ⟨hA.own, hM3⟩⟩
  ·skip
   go_simp
   refine (kinds_any _).mono ?_
   rintro e W3 ⟨mb, rfl, hV, hk3⟩
   refine hK.out _ _ ⟨hS.1.kept hk3, hS.2.trans hk3⟩ (fun hS => ?_)
   clear hK K
   refine wpAnyH_ready (rs := [2, 6]) (by kernel_rfl) (by simp) ?_
   refine AllReadyH.cons rfl (fun K hK => ?_) (AllReadyH.cons rfl (fun K hK => ?_) AllReadyH.nil)
   ·skip
    go_simp
    have hk2 := (Mod.refl (fun _ => False) W3).alloc (.cells #[.int .u8 f.k] 5)
    have hO := tag_own W3 w.heap.size HZN.out HZ.out hS.2.size
    refine hK.out _ _ ⟨hS.1.kept hk2, hS.2.trans hk2⟩ (fun hS => ?_)
    clear hK K
    generalize hg2 : W3.alloc (.cells #[.int .u8 f.k] 5) = W2 at *
    refine wpAnyH_ready (rs := [6]) (by kernel_rfl) (by simp) ?_
    refine arH rfl fun K hK => ?_
    have hlk := (hV.kept hk2 (fun h => h)).look (t := 171) (e := 170) HOK.out Tryz.underlying171 (zero_kind W2)
    rw [HKF.out] at hlk
    simp only [Option.getD_some] at hlk
    go_simp
    refine hK.out _ _ hS (fun hS => ?_)
    clear hK K
    refine tk 7 (.func (.func fn3) #[] #[]) (some 38) rfl rfl (by kernel_rfl) (fun _ _ _ => id) (Or.inl ⟨by rfl, fun X hX => ?_⟩) hS ?_
    ·have := field2 X fn1 fn2 fn3 v4 O4.out; go_simp
    (try go_frame); refine wpAnyH_ready (rs := [9]) (by kernel_rfl) (by simp) ?_
    refine arH rfl fun K hK => ?_
    go_simp
    refine (HP.out W2 hS.2).mono ?_
    rintro e W9 ⟨vb, rfl, hb9, hk9⟩
    obtain ⟨a9, c9, rfl, _⟩ := byts_val hb9
    refine hK.out _ _ ⟨hS.1.kept hk9, hS.2.trans hk9⟩ (fun hS => ?_)
    clear hK K
    refine wpAnyH_ready (rs := [10]) (by kernel_rfl) (by simp) ?_
    refine arH rfl fun K hK => ?_
    refine step_append_b rfl (.tmp 33) (.tmp 40) rfl (.slice (some ⟨W3.heap.size, 0, none⟩) 1 1) [UInt8.ofNat n] w.heap.size _ (by rfl) (hO.keptF hk9) (.slice a9 body.length c9) body (by rfl) hb9 (UInt8.ofNat n :: body) rfl rfl HLEN.out hS.2.size ?_
    intro ap cp X3 hA
    (try go_frame)
    have hM3 : Mod (fun _ => False) w X3 := hA.modF hS.2 (Nat.le_refl _)
    have hB3 := (hA.mod (w0 := W9) (S := fun k => (Value.slice (some ⟨W3.heap.size, 0, none⟩) 1 1).ownBlock = some k) (Mod.refl _ _) (fun g hg _ => hg)).blk hS.1.blk (OwnB.apart (hO.keptF hk9) hS.1.blk (by decide))
    refine hK.out _ _ ⟨⟨hB3, H16.out⟩, hM3⟩ (fun hS => ?_)
    clear hK K
    refine wpAnyH_ready (rs := [11]) (by kernel_rfl) (by simp) ?_
    refine arH rfl fun K hK => ?_
    go_simp
    refine hK.out _ _ hS (fun hS => ?_)
    clear hK K
    refine wpAnyH_done (by kernel_rfl) ?_ _
    go_wp2_with fail
    go_meet
    exact ⟨ap, cp, rfl, ⟨hA.own, hM3⟩⟩
   ·skip
    have hlk := hV.look (t := 171) (e := 170) HOK.out Tryz.underlying171 (zero_kind W3)
    rw [HKF.out] at hlk
    simp only [Option.getD_some] at hlk
    go_simp
    refine hK.out _ _ hS (fun hS => ?_)
    clear hK K
    refine tk 7 (.func (.func fn3) #[] #[]) (some 38) rfl rfl (by kernel_rfl) (fun _ _ _ => id) (Or.inl ⟨by rfl, fun X hX => ?_⟩) hS ?_
    ·have := field2 X fn1 fn2 fn3 v4 O4.out; go_simp
    (try go_frame); refine wpAnyH_ready (rs := [2, 9]) (by kernel_rfl) (by simp) ?_
    refine AllReadyH.cons rfl (fun K hK => ?_) (AllReadyH.cons rfl (fun K hK => ?_) AllReadyH.nil)
    ·skip
     go_simp
     have hk2 := (Mod.refl (fun _ => False) W3).alloc (.cells #[.int .u8 f.k] 5)
     have hO := tag_own W3 w.heap.size HZN.out HZ.out hS.2.size
     refine hK.out _ _ ⟨hS.1.kept hk2, hS.2.trans hk2⟩ (fun hS => ?_)
     clear hK K
     generalize hg2 : W3.alloc (.cells #[.int .u8 f.k] 5) = W2 at *
     refine wpAnyH_ready (rs := [9]) (by kernel_rfl) (by simp) ?_
     refine arH rfl fun K hK => ?_
     go_simp
     refine (HP.out W2 hS.2).mono ?_
     rintro e W9 ⟨vb, rfl, hb9, hk9⟩
     obtain ⟨a9, c9, rfl, _⟩ := byts_val hb9
     refine hK.out _ _ ⟨hS.1.kept hk9, hS.2.trans hk9⟩ (fun hS => ?_)
     clear hK K
     refine wpAnyH_ready (rs := [10]) (by kernel_rfl) (by simp) ?_
     refine arH rfl fun K hK => ?_
     refine step_append_b rfl (.tmp 33) (.tmp 40) rfl (.slice (some ⟨W3.heap.size, 0, none⟩) 1 1) [UInt8.ofNat n] w.heap.size _ (by rfl) (hO.keptF hk9) (.slice a9 body.length c9) body (by rfl) hb9 (UInt8.ofNat n :: body) rfl rfl HLEN.out hS.2.size ?_
     intro ap cp X3 hA
     (try go_frame)
     have hM3 : Mod (fun _ => False) w X3 := hA.modF hS.2 (Nat.le_refl _)
     have hB3 := (hA.mod (w0 := W9) (S := fun k => (Value.slice (some ⟨W3.heap.size, 0, none⟩) 1 1).ownBlock = some k) (Mod.refl _ _) (fun g hg _ => hg)).blk hS.1.blk (OwnB.apart (hO.keptF hk9) hS.1.blk (by decide))
     refine hK.out _ _ ⟨⟨hB3, H16.out⟩, hM3⟩ (fun hS => ?_)
     clear hK K
     refine wpAnyH_ready (rs := [11]) (by kernel_rfl) (by simp) ?_
     refine arH rfl fun K hK => ?_
     go_simp
     refine hK.out _ _ hS (fun hS => ?_)
     clear hK K
     refine wpAnyH_done (by kernel_rfl) ?_ _
     go_wp2_with fail
     go_meet
     exact ⟨ap, cp, rfl, ⟨hA.own, hM3⟩⟩
    ·skip
     go_simp
     refine (HP.out W3 hS.2).mono ?_
     rintro e W9 ⟨vb, rfl, hb9, hk9⟩
     obtain ⟨a9, c9, rfl, _⟩ := byts_val hb9
     refine hK.out _ _ ⟨hS.1.kept hk9, hS.2.trans hk9⟩ (fun hS => ?_)
     clear hK K
     refine wpAnyH_ready (rs := [2]) (by kernel_rfl) (by simp) ?_
     refine arH rfl fun K hK => ?_
     go_simp
     have hk2 := (Mod.refl (fun _ => False) W9).alloc (.cells #[.int .u8 f.k] 5)
     have hO := tag_own W9 w.heap.size HZN.out HZ.out hS.2.size
     refine hK.out _ _ ⟨hS.1.kept hk2, hS.2.trans hk2⟩ (fun hS => ?_)
     clear hK K
     generalize hg2 : W9.alloc (.cells #[.int .u8 f.k] 5) = W2 at *
     refine wpAnyH_ready (rs := [10]) (by kernel_rfl) (by simp) ?_
     refine arH rfl fun K hK => ?_
     refine step_append_b rfl (.tmp 33) (.tmp 40) rfl (.slice (some ⟨W9.heap.size, 0, none⟩) 1 1) [UInt8.ofNat n] w.heap.size _ (by rfl) hO (.slice a9 body.length c9) body (by rfl) (byts_kept hb9 hk2) (UInt8.ofNat n :: body) rfl rfl HLEN.out hS.2.size ?_
     intro ap cp X3 hA
     (try go_frame)
     have hM3 : Mod (fun _ => False) w X3 := hA.modF hS.2 (Nat.le_refl _)
     have hB3 := (hA.mod (w0 := W2) (S := fun k => (Value.slice (some ⟨W9.heap.size, 0, none⟩) 1 1).ownBlock = some k) (Mod.refl _ _) (fun g hg _ => hg)).blk hS.1.blk (OwnB.apart hO hS.1.blk (by decide))
     refine hK.out _ _ ⟨⟨hB3, H16.out⟩, hM3⟩ (fun hS => ?_)
     clear hK K
     refine wpAnyH_ready (rs := [11]) (by kernel_rfl) (by simp) ?_
     refine arH rfl fun K hK => ?_
     go_simp
     refine hK.out _ _ hS (fun hS => ?_)
     clear hK K
     refine wpAnyH_done (by kernel_rfl) ?_ _
     go_wp2_with fail
     go_meet
     exact ⟨ap, cp, rfl, ⟨hA.own, hM3⟩⟩
 case rest =>
  obtain ⟨ap, cp, rfl, HC⟩ := hcut
  go_wp2_with fail
  go_ret
  exact ⟨_, rfl, HC.out.1, HC.out.2⟩
theorem ints1 {w : World} {hi : Int} {a : Nat} (h1 : (a : Int) = hi) : Ints (w.alloc (.cells #[.int .u64 hi] 34)) (.slice (some ⟨w.heap.size, 0, none⟩) 1 1) [a] := by
 subst h1
 exact ints_lit w [a] _ 1 _ rfl rfl (by decide)
theorem or_tags (ba fl : Bool) : bits BinOp.or IntKind.i64 (bits BinOp.or IntKind.i64 10 (bitN ba 4)) (bitN fl 1) = 10 + bitN ba 4 + bitN fl 1 := by
 cases ba <;> cases fl <;> decide +kernel
theorem bitN_le (b : Bool) (n : Int) (h : 0 ≤ n) : 0 ≤ bitN b n ∧ bitN b n ≤ n := by
 cases b <;> simp [bitN] <;> omega
theorem tag_stream {f : Fr} (h : f.k = 8) {ba : Bool} (hb : decide (0 < f.a) = ba) : (tagN f : Int) = 10 + bitN ba 4 + bitN f.fl 1 := by
 subst hb
 unfold tagN bitN
 rw [if_pos h]
 by_cases ha : f.a = 0
 ·cases hf : f.fl <;> simp [ha]
 ·cases hf : f.fl <;> simp [ha, show 0 < f.a by omega]
set_option maxHeartbeats 16000000 in
set_option maxRecDepth 10000 in
theorem fput_stream {w : World} {f : Fr} {vd vr : Value} (hT : Tabs w) (hv : FrV w f vd vr) (hrl : (f.rs.length : Int) ≤ 100000) (hok : okKey f.k) (hro : RngOk f) (hr : rightF f = true) (hk : f.k = 8) (hdl : f.d.length ≤ 100000) :
  Calls Tryz.prog 54 #[frV f vd vr] w fun e w' => ∃ v, e = .returned v ∧ OwnB w' w.heap.size v (fputL f) ∧ Mod (fun _ => False) w w' := by
 have hM := (Mod.refl (fun _ => False) w).alloc (.cells (frC f vd vr) 91)
 have HR := Lib.hid (right_any (hv.kept hM) hrl hok hro)
 rw [hr] at HR
 obtain ⟨n, hn⟩ : ∃ n, n = tagN f := ⟨_, rfl⟩
 obtain ⟨ba, hba⟩ : ∃ b, decide (0 < f.a) = b := ⟨_, rfl⟩
 have htag := tag_stream hk hba
 have HRES : Hid (fputL f = UInt8.ofNat n :: putL f.id ++ (bif ba then putL f.a else []) ++ dataL f.d) := by
  show _ = _
  unfold fputL
  rw [if_pos hr, hk, ← hn]
  show _ :: (putL f.id ++ (if f.a = 0 then [] else putL f.a) ++ dataL f.d) = _
  rw [← hba]
  by_cases ha : f.a = 0
  ·simp [ha]
  ·rw [if_neg ha, show decide (0 < f.a) = true by simp; omega]; simp
 have HW := Lib.hid (loadWhole w f vd vr hv.t)
 have HF0 := Lib.hid (FrB.new w f vd vr hv.t)
 have HM := Lib.hid hM
 have HT := Lib.hid hT
 have HV := Lib.hid hv
 have H16 := Lib.hid hv.t
 have hb4 := bitN_le ba 4 (by decide)
 have hb1 := bitN_le f.fl 1 (by decide)
 obtain ⟨z, hz⟩ : ∃ z : Int, (n : Int) = z := ⟨_, rfl⟩
 rw [← hn, hz] at htag
 have HZN := Lib.hid hz
 have HZ : Hid (n ≤ 255) := by show n ≤ 255; omega
 have hzw : IntKind.u8.wrap z = z := IntWalk.u8_in _ (by omega)
 obtain ⟨o1, ho1⟩ : ∃ o : Int, bits BinOp.or IntKind.i64 10 (bitN ba 4) = o := ⟨_, rfl⟩
 have ho2 : bits BinOp.or IntKind.i64 o1 (bitN f.fl 1) = z := by rw [← ho1, or_tags, htag]
 have HCAT : Hid (UInt8.ofNat n :: putL f.id = [UInt8.ofNat n] ++ intsL [f.id]) := by show _ = _; simp [intsL]
 have HLEN1 : Hid ((([UInt8.ofNat n].length + (intsL [f.id]).length : Nat) : Int) ≤ 140737488355328) := by show _ ≤ _; have := intsL_len [f.id]; simp at this ⊢; omega
 have hba' : decide ((0 : Int) < (f.a : Int)) = ba := by rw [← hba, Bool.eq_iff_iff]; simp
 have t8 : (f.k != 8) = false := by rw [hk]; rfl
 have HDL := Lib.hid hdl
 have e0 : (frC f vd vr)[0]? = some (.int .i64 f.k) := rfl
 clear hT hv hrl hok hro hr hM hn hz htag hb4 hb1 hk hdl
 unfold frV at *
 go_enter Tryz.func54, Tryz.ntmps54
 go_wp2_with (first
  | ((with_reducible refine wpList_load_v 91 (.tmp 1) ?_ ?_ (.pointer (some ⟨w.heap.size, 0, none⟩)) (.agg (frC f vd vr)) ?_ (HW.out _ rfl) ?_); (iterate 3 exact rfl))
  | fail)
 refine (HR.out).mono ?_
 rintro e w1 ⟨rfl, hM1⟩
 have HM1 := Lib.hid (HM.out.trans hM1)
 have HF1 := Lib.hid (HF0.out.kept hM1)
 have c0 := HF1.out.cells.1
 clear hM1 e0
 go_upto_region 8 with fail
 go_cut [4] (fun s4 wx => ∃ ap cp, s4 = .slice ap ([UInt8.ofNat n].length + (intsL [f.id]).length) cp ∧ Hid (OwnB wx w.heap.size (.slice ap ([UInt8.ofNat n].length + (intsL [f.id]).length) cp) (UInt8.ofNat n :: putL f.id) ∧ FrB wx w.heap.size f vd vr ∧ Mod (fun _ => False) w wx))
 case first =>
  refine wp_region_held_drew (S := fun X => FrB X w.heap.size f vd vr ∧ Mod (fun _ => False) w X) (by kernel_rfl) ⟨HF1.out.kept (Mod.refl _ _).drew, HM1.out.drew⟩ (fun hS => ?_)
  refine tk 0 (.pointer (some ⟨w.heap.size, 2, none⟩)) (some 42) rfl rfl (by kernel_rfl) (fun _ _ _ => id) (Or.inl ⟨by rfl, fun X hX => ?_⟩) hS ?_
  ·go_simp
  (try go_frame); refine tk 1 (.int .u64 (f.a : Int)) (some 43) rfl rfl (by kernel_rfl) (fun _ _ _ => id) (Or.inl ⟨by rfl, fun X hX => ?_⟩) hS ?_
  ·have := hX.1.cells.2.2.1; go_simp
  (try go_frame); refine tk 2 (.bool ba) (some 44) rfl rfl (by kernel_rfl) (fun _ _ _ => id) (Or.inl ⟨by rfl, fun X hX => ?_⟩) hS ?_
  ·go_simp
  (try go_frame); refine tk 5 (.pointer (some ⟨w.heap.size, 5, none⟩)) (some 47) rfl rfl (by kernel_rfl) (fun _ _ _ => id) (Or.inl ⟨by rfl, fun X hX => ?_⟩) hS ?_
  ·go_simp
  (try go_frame); refine tk 6 (.bool f.fl) (some 48) rfl rfl (by kernel_rfl) (fun _ _ _ => id) (Or.inl ⟨by rfl, fun X hX => ?_⟩) hS ?_
  ·have := hX.1.cells.2.2.2.2.2.1; go_simp
  (try go_frame); refine tk 11 (.pointer (some ⟨w.heap.size, 1, none⟩)) (some 53) rfl rfl (by kernel_rfl) (fun _ _ _ => id) (Or.inl ⟨by rfl, fun X hX => ?_⟩) hS ?_
  ·go_simp
  (try go_frame); refine tk 12 (.int .u64 (f.id : Int)) (some 54) rfl rfl (by kernel_rfl) (fun _ _ _ => id) (Or.inl ⟨by rfl, fun X hX => ?_⟩) hS ?_
  ·have := hX.1.cells.2.1; go_simp
  (try go_frame)
  generalize w1.drew = W0 at *
  refine wpAnyH_ready (rs := [3, 13]) (by kernel_rfl) (by simp) ?_
  refine AllReadyH.cons rfl (fun K hK => ?_) (AllReadyH.cons rfl (fun K hK => ?_) AllReadyH.nil)
  ·skip
   go_simp
   refine (bit_any _ _ _).mono ?_
   rintro e w' ⟨rfl, rfl⟩
   refine hK.out _ _ hS (fun hS => ?_)
   clear hK K
   refine tk 4 (.int .i64 o1) (some 46) rfl rfl (by kernel_rfl) (fun _ _ _ => id) (Or.inl ⟨by rfl, fun X hX => ?_⟩) hS ?_
   ·go_simp
   (try go_frame); refine wpAnyH_ready (rs := [7, 13]) (by kernel_rfl) (by simp) ?_
   refine AllReadyH.cons rfl (fun K hK => ?_) (AllReadyH.cons rfl (fun K hK => ?_) AllReadyH.nil)
   ·skip
    go_simp
    refine (bit_any _ _ _).mono ?_
    rintro e w' ⟨rfl, rfl⟩
    refine hK.out _ _ hS (fun hS => ?_)
    clear hK K
    refine tk 8 (.int .i64 z) (some 50) rfl rfl (by kernel_rfl) (fun _ _ _ => id) (Or.inl ⟨by rfl, fun X hX => ?_⟩) hS ?_
    ·go_simp
    (try go_frame); refine tk 9 (.int .u8 z) (some 51) rfl rfl (by kernel_rfl) (fun _ _ _ => id) (Or.inl ⟨by rfl, fun X hX => ?_⟩) hS ?_
    ·go_simp
    (try go_frame); refine wpAnyH_ready (rs := [10, 13]) (by kernel_rfl) (by simp) ?_
    refine AllReadyH.cons rfl (fun K hK => ?_) (AllReadyH.cons rfl (fun K hK => ?_) AllReadyH.nil)
    ·skip
     go_simp
     have hk10 := (Mod.refl (fun _ => False) W0).alloc (.cells #[.int .u8 z] 5)
     have hO := tag_own W0 w.heap.size HZN.out HZ.out hS.2.size
     refine hK.out _ _ ⟨hS.1.kept hk10, hS.2.trans hk10⟩ (fun hS => ?_)
     clear hK K
     generalize hg10 : W0.alloc (.cells #[.int .u8 z] 5) = W10 at *
     refine wpAnyH_ready (rs := [13]) (by kernel_rfl) (by simp) ?_
     refine arH rfl fun K hK => ?_
     go_simp
     have hk13 := (Mod.refl (fun _ => False) W10).alloc (.cells #[.int .u64 (f.id : Int)] 34)
     have hI := ints1 (w := W10) (a := f.id) rfl
     refine hK.out _ _ ⟨hS.1.kept hk13, hS.2.trans hk13⟩ (fun hS => ?_)
     clear hK K
     generalize hg13 : W10.alloc (.cells #[.int .u64 (f.id : Int)] 34) = W13 at *
     refine wpAnyH_ready (rs := [14]) (by kernel_rfl) (by simp) ?_
     refine arH rfl fun K hK => ?_
     go_simp
     refine (ints_any (hS.2.tabs HT.out (fun h => h)) hI (by simp)).mono ?_
     rintro e W14 ⟨v14, rfl, ho14, hk14⟩
     refine hK.out _ _ ⟨hS.1.kept hk14, hS.2.trans hk14⟩ (fun hS => ?_)
     clear hK K
     refine wpAnyH_ready (rs := [15]) (by kernel_rfl) (by simp) ?_
     refine arH rfl fun K hK => ?_
     refine step_append_b rfl (.tmp 52) (.tmp 56) rfl (.slice (some ⟨W0.heap.size, 0, none⟩) 1 1) [UInt8.ofNat n] w.heap.size _ (by rfl) ((hO.keptF hk13).keptF hk14) v14 (intsL [f.id]) (by rfl) ho14.byts (UInt8.ofNat n :: putL f.id) HCAT.out rfl HLEN1.out hS.2.size ?_
     intro ap cp X3 hA
     (try go_frame)
     have hM3 : Mod (fun _ => False) w X3 := hA.modF hS.2 (Nat.le_refl _)
     have hB3 := (hA.mod (w0 := W14) (S := fun k => (Value.slice (some ⟨W0.heap.size, 0, none⟩) 1 1).ownBlock = some k) (Mod.refl _ _) (fun g hg _ => hg)).blk hS.1.blk (OwnB.apart ((hO.keptF hk13).keptF hk14) hS.1.blk (by decide))
     refine hK.out _ _ ⟨⟨hB3, H16.out⟩, hM3⟩ (fun hS => ?_)
     clear hK K
     refine wpAnyH_ready (rs := [16]) (by kernel_rfl) (by simp) ?_
     refine arH rfl fun K hK => ?_
     go_simp
     refine hK.out _ _ hS (fun hS => ?_)
     clear hK K
     refine wpAnyH_done (by kernel_rfl) ?_ _
     go_wp2_with fail
     go_meet
     exact ⟨ap, cp, rfl, ⟨hA.own, hS.1, hM3⟩⟩
    ·skip
     go_simp
     have hk13 := (Mod.refl (fun _ => False) W0).alloc (.cells #[.int .u64 (f.id : Int)] 34)
     have hI := ints1 (w := W0) (a := f.id) rfl
     refine hK.out _ _ ⟨hS.1.kept hk13, hS.2.trans hk13⟩ (fun hS => ?_)
     clear hK K
     generalize hg13 : W0.alloc (.cells #[.int .u64 (f.id : Int)] 34) = W13 at *
     refine wpAnyH_ready (rs := [10, 14]) (by kernel_rfl) (by simp) ?_
     refine AllReadyH.cons rfl (fun K hK => ?_) (AllReadyH.cons rfl (fun K hK => ?_) AllReadyH.nil)
     ·skip
      go_simp
      have hk10 := (Mod.refl (fun _ => False) W13).alloc (.cells #[.int .u8 z] 5)
      have hO := tag_own W13 w.heap.size HZN.out HZ.out hS.2.size
      refine hK.out _ _ ⟨hS.1.kept hk10, hS.2.trans hk10⟩ (fun hS => ?_)
      clear hK K
      generalize hg10 : W13.alloc (.cells #[.int .u8 z] 5) = W10 at *
      refine wpAnyH_ready (rs := [14]) (by kernel_rfl) (by simp) ?_
      refine arH rfl fun K hK => ?_
      go_simp
      refine (ints_any (hS.2.tabs HT.out (fun h => h)) (Sl.kept hI hk10 (fun _ _ h => h)) (by simp)).mono ?_
      rintro e W14 ⟨v14, rfl, ho14, hk14⟩
      refine hK.out _ _ ⟨hS.1.kept hk14, hS.2.trans hk14⟩ (fun hS => ?_)
      clear hK K
      refine wpAnyH_ready (rs := [15]) (by kernel_rfl) (by simp) ?_
      refine arH rfl fun K hK => ?_
      refine step_append_b rfl (.tmp 52) (.tmp 56) rfl (.slice (some ⟨W13.heap.size, 0, none⟩) 1 1) [UInt8.ofNat n] w.heap.size _ (by rfl) (hO.keptF hk14) v14 (intsL [f.id]) (by rfl) ho14.byts (UInt8.ofNat n :: putL f.id) HCAT.out rfl HLEN1.out hS.2.size ?_
      intro ap cp X3 hA
      (try go_frame)
      have hM3 : Mod (fun _ => False) w X3 := hA.modF hS.2 (Nat.le_refl _)
      have hB3 := (hA.mod (w0 := W14) (S := fun k => (Value.slice (some ⟨W13.heap.size, 0, none⟩) 1 1).ownBlock = some k) (Mod.refl _ _) (fun g hg _ => hg)).blk hS.1.blk (OwnB.apart (hO.keptF hk14) hS.1.blk (by decide))
      refine hK.out _ _ ⟨⟨hB3, H16.out⟩, hM3⟩ (fun hS => ?_)
      clear hK K
      refine wpAnyH_ready (rs := [16]) (by kernel_rfl) (by simp) ?_
      refine arH rfl fun K hK => ?_
      go_simp
      refine hK.out _ _ hS (fun hS => ?_)
      clear hK K
      refine wpAnyH_done (by kernel_rfl) ?_ _
      go_wp2_with fail
      go_meet
      exact ⟨ap, cp, rfl, ⟨hA.own, hS.1, hM3⟩⟩
     ·skip
      go_simp
      refine (ints_any (hS.2.tabs HT.out (fun h => h)) hI (by simp)).mono ?_
      rintro e W14 ⟨v14, rfl, ho14, hk14⟩
      refine hK.out _ _ ⟨hS.1.kept hk14, hS.2.trans hk14⟩ (fun hS => ?_)
      clear hK K
      refine wpAnyH_ready (rs := [10]) (by kernel_rfl) (by simp) ?_
      refine arH rfl fun K hK => ?_
      go_simp
      have hk10 := (Mod.refl (fun _ => False) W14).alloc (.cells #[.int .u8 z] 5)
      have hO := tag_own W14 w.heap.size HZN.out HZ.out hS.2.size
      refine hK.out _ _ ⟨hS.1.kept hk10, hS.2.trans hk10⟩ (fun hS => ?_)
      clear hK K
      generalize hg10 : W14.alloc (.cells #[.int .u8 z] 5) = W10 at *
      refine wpAnyH_ready (rs := [15]) (by kernel_rfl) (by simp) ?_
      refine arH rfl fun K hK => ?_
      refine step_append_b rfl (.tmp 52) (.tmp 56) rfl (.slice (some ⟨W14.heap.size, 0, none⟩) 1 1) [UInt8.ofNat n] w.heap.size _ (by rfl) hO v14 (intsL [f.id]) (by rfl) (byts_kept ho14.byts hk10) (UInt8.ofNat n :: putL f.id) HCAT.out rfl HLEN1.out hS.2.size ?_
      intro ap cp X3 hA
      (try go_frame)
      have hM3 : Mod (fun _ => False) w X3 := hA.modF hS.2 (Nat.le_refl _)
      have hB3 := (hA.mod (w0 := W10) (S := fun k => (Value.slice (some ⟨W14.heap.size, 0, none⟩) 1 1).ownBlock = some k) (Mod.refl _ _) (fun g hg _ => hg)).blk hS.1.blk (OwnB.apart hO hS.1.blk (by decide))
      refine hK.out _ _ ⟨⟨hB3, H16.out⟩, hM3⟩ (fun hS => ?_)
      clear hK K
      refine wpAnyH_ready (rs := [16]) (by kernel_rfl) (by simp) ?_
      refine arH rfl fun K hK => ?_
      go_simp
      refine hK.out _ _ hS (fun hS => ?_)
      clear hK K
      refine wpAnyH_done (by kernel_rfl) ?_ _
      go_wp2_with fail
      go_meet
      exact ⟨ap, cp, rfl, ⟨hA.own, hS.1, hM3⟩⟩
   ·skip
    go_simp
    have hk13 := (Mod.refl (fun _ => False) W0).alloc (.cells #[.int .u64 (f.id : Int)] 34)
    have hI := ints1 (w := W0) (a := f.id) rfl
    refine hK.out _ _ ⟨hS.1.kept hk13, hS.2.trans hk13⟩ (fun hS => ?_)
    clear hK K
    generalize hg13 : W0.alloc (.cells #[.int .u64 (f.id : Int)] 34) = W13 at *
    refine wpAnyH_ready (rs := [7]) (by kernel_rfl) (by simp) ?_
    refine arH rfl fun K hK => ?_
    go_simp
    refine (bit_any _ _ _).mono ?_
    rintro e w' ⟨rfl, rfl⟩
    refine hK.out _ _ hS (fun hS => ?_)
    clear hK K
    refine tk 8 (.int .i64 z) (some 50) rfl rfl (by kernel_rfl) (fun _ _ _ => id) (Or.inl ⟨by rfl, fun X hX => ?_⟩) hS ?_
    ·go_simp
    (try go_frame); refine tk 9 (.int .u8 z) (some 51) rfl rfl (by kernel_rfl) (fun _ _ _ => id) (Or.inl ⟨by rfl, fun X hX => ?_⟩) hS ?_
    ·go_simp
    (try go_frame); refine wpAnyH_ready (rs := [10, 14]) (by kernel_rfl) (by simp) ?_
    refine AllReadyH.cons rfl (fun K hK => ?_) (AllReadyH.cons rfl (fun K hK => ?_) AllReadyH.nil)
    ·skip
     go_simp
     have hk10 := (Mod.refl (fun _ => False) W13).alloc (.cells #[.int .u8 z] 5)
     have hO := tag_own W13 w.heap.size HZN.out HZ.out hS.2.size
     refine hK.out _ _ ⟨hS.1.kept hk10, hS.2.trans hk10⟩ (fun hS => ?_)
     clear hK K
     generalize hg10 : W13.alloc (.cells #[.int .u8 z] 5) = W10 at *
     refine wpAnyH_ready (rs := [14]) (by kernel_rfl) (by simp) ?_
     refine arH rfl fun K hK => ?_
     go_simp
     refine (ints_any (hS.2.tabs HT.out (fun h => h)) (Sl.kept hI hk10 (fun _ _ h => h)) (by simp)).mono ?_
     rintro e W14 ⟨v14, rfl, ho14, hk14⟩
     refine hK.out _ _ ⟨hS.1.kept hk14, hS.2.trans hk14⟩ (fun hS => ?_)
     clear hK K
     refine wpAnyH_ready (rs := [15]) (by kernel_rfl) (by simp) ?_
     refine arH rfl fun K hK => ?_
     refine step_append_b rfl (.tmp 52) (.tmp 56) rfl (.slice (some ⟨W13.heap.size, 0, none⟩) 1 1) [UInt8.ofNat n] w.heap.size _ (by rfl) (hO.keptF hk14) v14 (intsL [f.id]) (by rfl) ho14.byts (UInt8.ofNat n :: putL f.id) HCAT.out rfl HLEN1.out hS.2.size ?_
     intro ap cp X3 hA
     (try go_frame)
     have hM3 : Mod (fun _ => False) w X3 := hA.modF hS.2 (Nat.le_refl _)
     have hB3 := (hA.mod (w0 := W14) (S := fun k => (Value.slice (some ⟨W13.heap.size, 0, none⟩) 1 1).ownBlock = some k) (Mod.refl _ _) (fun g hg _ => hg)).blk hS.1.blk (OwnB.apart (hO.keptF hk14) hS.1.blk (by decide))
     refine hK.out _ _ ⟨⟨hB3, H16.out⟩, hM3⟩ (fun hS => ?_)
     clear hK K
     refine wpAnyH_ready (rs := [16]) (by kernel_rfl) (by simp) ?_
     refine arH rfl fun K hK => ?_
     go_simp
     refine hK.out _ _ hS (fun hS => ?_)
     clear hK K
     refine wpAnyH_done (by kernel_rfl) ?_ _
     go_wp2_with fail
     go_meet
     exact ⟨ap, cp, rfl, ⟨hA.own, hS.1, hM3⟩⟩
    ·skip
     go_simp
     refine (ints_any (hS.2.tabs HT.out (fun h => h)) hI (by simp)).mono ?_
     rintro e W14 ⟨v14, rfl, ho14, hk14⟩
     refine hK.out _ _ ⟨hS.1.kept hk14, hS.2.trans hk14⟩ (fun hS => ?_)
     clear hK K
     refine wpAnyH_ready (rs := [10]) (by kernel_rfl) (by simp) ?_
     refine arH rfl fun K hK => ?_
     go_simp
     have hk10 := (Mod.refl (fun _ => False) W14).alloc (.cells #[.int .u8 z] 5)
     have hO := tag_own W14 w.heap.size HZN.out HZ.out hS.2.size
     refine hK.out _ _ ⟨hS.1.kept hk10, hS.2.trans hk10⟩ (fun hS => ?_)
     clear hK K
     generalize hg10 : W14.alloc (.cells #[.int .u8 z] 5) = W10 at *
     refine wpAnyH_ready (rs := [15]) (by kernel_rfl) (by simp) ?_
     refine arH rfl fun K hK => ?_
     refine step_append_b rfl (.tmp 52) (.tmp 56) rfl (.slice (some ⟨W14.heap.size, 0, none⟩) 1 1) [UInt8.ofNat n] w.heap.size _ (by rfl) hO v14 (intsL [f.id]) (by rfl) (byts_kept ho14.byts hk10) (UInt8.ofNat n :: putL f.id) HCAT.out rfl HLEN1.out hS.2.size ?_
     intro ap cp X3 hA
     (try go_frame)
     have hM3 : Mod (fun _ => False) w X3 := hA.modF hS.2 (Nat.le_refl _)
     have hB3 := (hA.mod (w0 := W10) (S := fun k => (Value.slice (some ⟨W14.heap.size, 0, none⟩) 1 1).ownBlock = some k) (Mod.refl _ _) (fun g hg _ => hg)).blk hS.1.blk (OwnB.apart hO hS.1.blk (by decide))
     refine hK.out _ _ ⟨⟨hB3, H16.out⟩, hM3⟩ (fun hS => ?_)
     clear hK K
     refine wpAnyH_ready (rs := [16]) (by kernel_rfl) (by simp) ?_
     refine arH rfl fun K hK => ?_
     go_simp
     refine hK.out _ _ hS (fun hS => ?_)
     clear hK K
     refine wpAnyH_done (by kernel_rfl) ?_ _
     go_wp2_with fail
     go_meet
     exact ⟨ap, cp, rfl, ⟨hA.own, hS.1, hM3⟩⟩
  ·skip
   go_simp
   have hk13 := (Mod.refl (fun _ => False) W0).alloc (.cells #[.int .u64 (f.id : Int)] 34)
   have hI := ints1 (w := W0) (a := f.id) rfl
   refine hK.out _ _ ⟨hS.1.kept hk13, hS.2.trans hk13⟩ (fun hS => ?_)
   clear hK K
   generalize hg13 : W0.alloc (.cells #[.int .u64 (f.id : Int)] 34) = W13 at *
   refine wpAnyH_ready (rs := [3]) (by kernel_rfl) (by simp) ?_
   refine arH rfl fun K hK => ?_
   go_simp
   refine (bit_any _ _ _).mono ?_
   rintro e w' ⟨rfl, rfl⟩
   refine hK.out _ _ hS (fun hS => ?_)
   clear hK K
   refine tk 4 (.int .i64 o1) (some 46) rfl rfl (by kernel_rfl) (fun _ _ _ => id) (Or.inl ⟨by rfl, fun X hX => ?_⟩) hS ?_
   ·go_simp
   (try go_frame); refine wpAnyH_ready (rs := [7]) (by kernel_rfl) (by simp) ?_
   refine arH rfl fun K hK => ?_
   go_simp
   refine (bit_any _ _ _).mono ?_
   rintro e w' ⟨rfl, rfl⟩
   refine hK.out _ _ hS (fun hS => ?_)
   clear hK K
   refine tk 8 (.int .i64 z) (some 50) rfl rfl (by kernel_rfl) (fun _ _ _ => id) (Or.inl ⟨by rfl, fun X hX => ?_⟩) hS ?_
   ·go_simp
   (try go_frame); refine tk 9 (.int .u8 z) (some 51) rfl rfl (by kernel_rfl) (fun _ _ _ => id) (Or.inl ⟨by rfl, fun X hX => ?_⟩) hS ?_
   ·go_simp
   (try go_frame); refine wpAnyH_ready (rs := [10, 14]) (by kernel_rfl) (by simp) ?_
   refine AllReadyH.cons rfl (fun K hK => ?_) (AllReadyH.cons rfl (fun K hK => ?_) AllReadyH.nil)
   ·skip
    go_simp
    have hk10 := (Mod.refl (fun _ => False) W13).alloc (.cells #[.int .u8 z] 5)
    have hO := tag_own W13 w.heap.size HZN.out HZ.out hS.2.size
    refine hK.out _ _ ⟨hS.1.kept hk10, hS.2.trans hk10⟩ (fun hS => ?_)
    clear hK K
    generalize hg10 : W13.alloc (.cells #[.int .u8 z] 5) = W10 at *
    refine wpAnyH_ready (rs := [14]) (by kernel_rfl) (by simp) ?_
    refine arH rfl fun K hK => ?_
    go_simp
    refine (ints_any (hS.2.tabs HT.out (fun h => h)) (Sl.kept hI hk10 (fun _ _ h => h)) (by simp)).mono ?_
    rintro e W14 ⟨v14, rfl, ho14, hk14⟩
    refine hK.out _ _ ⟨hS.1.kept hk14, hS.2.trans hk14⟩ (fun hS => ?_)
    clear hK K
    refine wpAnyH_ready (rs := [15]) (by kernel_rfl) (by simp) ?_
    refine arH rfl fun K hK => ?_
    refine step_append_b rfl (.tmp 52) (.tmp 56) rfl (.slice (some ⟨W13.heap.size, 0, none⟩) 1 1) [UInt8.ofNat n] w.heap.size _ (by rfl) (hO.keptF hk14) v14 (intsL [f.id]) (by rfl) ho14.byts (UInt8.ofNat n :: putL f.id) HCAT.out rfl HLEN1.out hS.2.size ?_
    intro ap cp X3 hA
    (try go_frame)
    have hM3 : Mod (fun _ => False) w X3 := hA.modF hS.2 (Nat.le_refl _)
    have hB3 := (hA.mod (w0 := W14) (S := fun k => (Value.slice (some ⟨W13.heap.size, 0, none⟩) 1 1).ownBlock = some k) (Mod.refl _ _) (fun g hg _ => hg)).blk hS.1.blk (OwnB.apart (hO.keptF hk14) hS.1.blk (by decide))
    refine hK.out _ _ ⟨⟨hB3, H16.out⟩, hM3⟩ (fun hS => ?_)
    clear hK K
    refine wpAnyH_ready (rs := [16]) (by kernel_rfl) (by simp) ?_
    refine arH rfl fun K hK => ?_
    go_simp
    refine hK.out _ _ hS (fun hS => ?_)
    clear hK K
    refine wpAnyH_done (by kernel_rfl) ?_ _
    go_wp2_with fail
    go_meet
    exact ⟨ap, cp, rfl, ⟨hA.own, hS.1, hM3⟩⟩
   ·skip
    go_simp
    refine (ints_any (hS.2.tabs HT.out (fun h => h)) hI (by simp)).mono ?_
    rintro e W14 ⟨v14, rfl, ho14, hk14⟩
    refine hK.out _ _ ⟨hS.1.kept hk14, hS.2.trans hk14⟩ (fun hS => ?_)
    clear hK K
    refine wpAnyH_ready (rs := [10]) (by kernel_rfl) (by simp) ?_
    refine arH rfl fun K hK => ?_
    go_simp
    have hk10 := (Mod.refl (fun _ => False) W14).alloc (.cells #[.int .u8 z] 5)
    have hO := tag_own W14 w.heap.size HZN.out HZ.out hS.2.size
    refine hK.out _ _ ⟨hS.1.kept hk10, hS.2.trans hk10⟩ (fun hS => ?_)
    clear hK K
    generalize hg10 : W14.alloc (.cells #[.int .u8 z] 5) = W10 at *
    refine wpAnyH_ready (rs := [15]) (by kernel_rfl) (by simp) ?_
    refine arH rfl fun K hK => ?_
    refine step_append_b rfl (.tmp 52) (.tmp 56) rfl (.slice (some ⟨W14.heap.size, 0, none⟩) 1 1) [UInt8.ofNat n] w.heap.size _ (by rfl) hO v14 (intsL [f.id]) (by rfl) (byts_kept ho14.byts hk10) (UInt8.ofNat n :: putL f.id) HCAT.out rfl HLEN1.out hS.2.size ?_
    intro ap cp X3 hA
    (try go_frame)
    have hM3 : Mod (fun _ => False) w X3 := hA.modF hS.2 (Nat.le_refl _)
    have hB3 := (hA.mod (w0 := W10) (S := fun k => (Value.slice (some ⟨W14.heap.size, 0, none⟩) 1 1).ownBlock = some k) (Mod.refl _ _) (fun g hg _ => hg)).blk hS.1.blk (OwnB.apart hO hS.1.blk (by decide))
    refine hK.out _ _ ⟨⟨hB3, H16.out⟩, hM3⟩ (fun hS => ?_)
    clear hK K
    refine wpAnyH_ready (rs := [16]) (by kernel_rfl) (by simp) ?_
    refine arH rfl fun K hK => ?_
    go_simp
    refine hK.out _ _ hS (fun hS => ?_)
    clear hK K
    refine wpAnyH_done (by kernel_rfl) ?_ _
    go_wp2_with fail
    go_meet
    exact ⟨ap, cp, rfl, ⟨hA.own, hS.1, hM3⟩⟩
 case rest =>
  obtain ⟨ap, cp, rfl, HC⟩ := hcut
  have c2 := HC.out.2.1.cells.2.2.1
  have c6 := HC.out.2.1.cells.2.2.2.2.2.2.1
  obtain ⟨n1, hn1⟩ : ∃ m, m = [UInt8.ofNat n].length + (intsL [f.id]).length := ⟨_, rfl⟩
  have hn9 : n1 = (UInt8.ofNat n :: putL f.id).length := by rw [hn1, HCAT.out, List.length_append]
  have hn1l : (n1 : Int) ≤ 100 := by rw [hn1]; have := intsL_len [f.id]; simp at this ⊢; omega
  rw [← hn1] at HC ⊢
  have HN1 := Lib.hid hn9
  clear hn1 hn9
  generalize hacc : UInt8.ofNat n :: putL f.id = acc at *
  clear hacc
  obtain ⟨da, dc, rfl, _⟩ := byts_val HV.out.d
  have HDT : Hid (∀ X, Mod (fun _ => False) w X → Calls Tryz.prog 99 #[.slice da f.d.length dc] X fun e Y => ∃ v', e = .returned v' ∧ OwnB Y X.heap.size v' (dataL f.d) ∧ Mod (fun _ => False) X Y) := fun X hX => data_any (hX.tabs HT.out (fun h => h)) (byts_kept HV.out.d hX) (by have := HDL.out; omega)
  have HLD : Hid ((dataL f.d).length ≤ 100100) := by show _ ≤ _; unfold dataL; have := putL_len f.d.length; have := HDL.out; simp; omega
  cases ba
  ·have HRES2 : Hid (fputL f = acc ++ dataL f.d) := by show _ = _; rw [HRES.out]; simp
   generalize dataL f.d = D at *
   go_wp2_with fail
   refine (HDT.out wc HC.out.2.2).mono ?_
   rintro e w3 ⟨v3, rfl, ho3, hk3⟩
   have HB3 := Lib.hid ho3.byts
   obtain ⟨a3, c3, rfl, _⟩ := byts_val ho3.byts
   have HK3 := Lib.hid hk3
   have HO3 := Lib.hid (HC.out.1.keptF hk3)
   have HL3 : Hid (((n1 + D.length : Nat) : Int) ≤ 140737488355328) := by show _ ≤ _; have := HLD.out; omega
   clear ho3 hk3
   generalize hnd : D.length = nd at *
   have HND := Lib.hid hnd
   clear hnd
   go_wp2_with (at_builtin; go_must (refine wpList_append_b rfl (.tmp 67) (.tmp 70) (by rfl) (.slice ap n1 cp) acc w.heap.size (n1 + nd) (by rfl) HO3.out _ D (by rfl) HB3.out (acc ++ D) rfl (by rw [← HN1.out, HND.out]) HL3.out (HC.out.2.2.trans HK3.out).size ?_); intro ap5 cp5 W5 hA5)
   go_ret
   exact ⟨_, rfl, by rw [HRES2.out]; exact hA5.own, hA5.modF (HC.out.2.2.trans HK3.out) (Nat.le_refl _)⟩
  ·have HRES2 : Hid (fputL f = (acc ++ putL f.a) ++ dataL f.d) := by show _ = _; rw [HRES.out]; simp
   have HIA : Hid (intsL [f.a] = putL f.a) := by show _ = _; simp [intsL]
   have HLA := Lib.hid (putL_len f.a)
   generalize dataL f.d = D at *
   have HC2 := Lib.hid (HC.out.2.2.alloc (.cells #[.int .u64 (f.a : Int)] 34))
   go_wp2_with fail
   refine (ints_any (HC2.out.tabs HT.out (fun h => h)) (ints1 (a := f.a) rfl) (by simp)).mono ?_
   rintro e w2 ⟨v2, rfl, ho2, hk2⟩
   have hC3 := (Mod.refl (fun _ => False) wc).alloc (.cells #[.int .u64 (f.a : Int)] 34)
   have hb2 := ho2.byts
   rw [HIA.out] at hb2
   have HB2 := Lib.hid hb2
   have HK2 := Lib.hid (HC2.out.trans hk2)
   have HO2 := Lib.hid ((HC.out.1.keptF hC3).keptF hk2)
   have HF2 := Lib.hid ((HC.out.2.1.kept hC3).kept hk2)
   obtain ⟨a2, c2', rfl, _⟩ := byts_val hb2
   generalize putL f.a = pa at *
   have HL2 : Hid (((n1 + pa.length : Nat) : Int) ≤ 140737488355328) := by show _ ≤ _; have := HLA.out; omega
   have hpa : (pa.length : Int) ≤ 8 := by have := HLA.out; omega
   generalize hnp : pa.length = np at *
   have HNP := Lib.hid hnp
   clear ho2 hk2 hb2 hnp hC3
   go_wp2_with (at_builtin; go_must (refine wpList_append_b rfl (.tmp 61) (.tmp 65) (by rfl) (.slice ap n1 cp) acc w.heap.size (n1 + np) (by rfl) HO2.out _ pa (by rfl) HB2.out (acc ++ pa) rfl (by rw [← HN1.out, HNP.out]) HL2.out HK2.out.size ?_); intro ap5 cp5 W5 hA5; have c66 : W5.cell? ⟨w.heap.size, 6, none⟩ = some (.slice da f.d.length dc) := ((hA5.mod (w0 := w2) (S := fun k => (Value.slice ap n1 cp).ownBlock = some k) (Mod.refl _ _) (fun g hg _ => hg)).blk HF2.out.blk (OwnB.apart HO2.out HF2.out.blk (by decide))).cellAt 6 rfl; have HA5 := Lib.hid hA5; have HM5 := Lib.hid (hA5.modF HK2.out (Nat.le_refl _)); clear hA5)
   refine (HDT.out W5 HM5.out).mono ?_
   rintro e w3 ⟨v3, rfl, ho3, hk3⟩
   have HB3 := Lib.hid ho3.byts
   obtain ⟨a3, c3, rfl, _⟩ := byts_val ho3.byts
   have HK3 := Lib.hid hk3
   have HO3 := Lib.hid (HA5.out.own.keptF hk3)
   have HL3 : Hid (((n1 + np + D.length : Nat) : Int) ≤ 140737488355328) := by show _ ≤ _; have := HLD.out; omega
   clear ho3 hk3
   generalize hnd : D.length = nd at *
   have HND := Lib.hid hnd
   clear hnd
   go_wp2_with (at_builtin; go_must (refine wpList_append_b rfl (.tmp 67) (.tmp 70) (by rfl) (.slice ap5 (n1 + np) cp5) (acc ++ pa) w.heap.size (n1 + np + nd) (by rfl) HO3.out _ D (by rfl) HB3.out ((acc ++ pa) ++ D) rfl (by rw [List.length_append, ← HN1.out, HNP.out, HND.out]) HL3.out (HM5.out.trans HK3.out).size ?_); intro ap6 cp6 W6 hA6)
   go_ret
   exact ⟨_, rfl, by rw [HRES2.out]; exact hA6.own, hA6.modF (HM5.out.trans HK3.out) (Nat.le_refl _)⟩
end Go.Proofs.YtahgidkpjmecdaaGreatDoor
