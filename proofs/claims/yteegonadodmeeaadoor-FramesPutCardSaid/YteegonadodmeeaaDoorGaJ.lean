/- Integers' bytes, one behind the other; bytes with their length. -/
import Derived.Test.YteegonadodmeeaaDoorGaB
namespace Go.Proofs.YteegonadodmeeaaDoor
open Go.RowKit

theorem putL_len (n : Nat) : (putL n).length ≤ 8 := by rw [putL_length]; exact szN_le n
theorem putL_pos (n : Nat) (h : n ≤ topN) : 0 < (putL n).length := by
  unfold topN at h
  rw [putL_length]
  rcases szN_cases n with h' | h' | h' | h' | h' <;> omega
def uv (n : Nat) : Value := .int .u64 (n : Int)
/-- Integers in memory. -/
def Ints (w : World) (v : Value) (ns : List Nat) : Prop := Sl w 1 v ns.length (ns.map uv)
def intsL (ns : List Nat) : List UInt8 := ns.flatMap putL
theorem intsL_len (ns : List Nat) : (intsL ns).length ≤ 8 * ns.length := by
  unfold intsL
  induction ns with
  | nil => simp
  | cons x l ih => have := putL_len x; rw [List.flatMap_cons, List.length_append, List.length_cons]; omega
theorem ints_addr {w : World} {v : Value} {ns : List Nat} (h : Ints w v ns) (hx : ns ≠ []) :
    ∃ b off cap, v = .slice (some ⟨b, off, none⟩) ns.length cap ∧ ns.length ≤ cap ∧ cap ≤ maxLen ∧ ∀ (j n : Nat), ns[j]? = some n → w.cell? ⟨b, off + j, none⟩ = some (.int .u64 (n : Int)) := by
  obtain ⟨b, off, cap, h1, h2, h3, h4⟩ := Sl.addr h (by simpa using hx)
  exact ⟨b, off, cap, h1, h2, h3, fun j n hj => h4 j (uv n) (by simp [hj])⟩
theorem ints_lit (w : World) (ns : List Nat) (cs : Array Value) (n : Nat) (T : TypeId) (hc : cs = (ns.map uv).toArray) (hn : ns.length = n) (hm : n ≤ maxLen) : Ints (w.alloc (.cells cs T)) (.slice (some ⟨w.heap.size, 0, none⟩) n n) ns := by
  subst hc hn
  refine ⟨by simp, some ⟨w.heap.size, 0, none⟩, ns.length, rfl, Nat.le_refl _, hm, fun e => by simp at e, fun j u hu => ⟨w.heap.size, 0, rfl, ?_⟩⟩
  rw [Nat.zero_add]
  exact (Blk.new w (ns.map uv).toArray T).cellAt j (by simpa using hu)
set_option maxHeartbeats 2000000 in
set_option maxRecDepth 10000 in
theorem ints_any {w : World} {v : Value} {ns : List Nat} (hT : Tabs w) (hv : Ints w v ns) (hn : (ns.length : Int) ≤ 1000) :
    Calls Tryd.prog 26 #[v] w fun e w' => ∃ v', e = .returned v' ∧ OwnB w' w.heap.size v' (intsL ns) ∧ Mod (fun _ => False) w w' := by
  have HV := Lib.hid hv
  have HT := Lib.hid hT
  obtain ⟨a, cap, rfl, hcap, _⟩ := Sl.val hv
  obtain ⟨n, hnn⟩ : ∃ n, n = ns.length := ⟨_, rfl⟩
  rw [← hnn] at hn hcap ⊢
  have HN := Lib.hid hnn
  have hnc : (n : Int) ≤ cap := by omega
  clear hv hT hcap hnn
  go_enter Tryd.func26, Tryd.ntmps26
  go_wp2
  go_loopw [3, 8] (fun s3 s8 wr => ∃ k : Nat, k ≤ n ∧ s8 = .int .i64 k ∧ ∃ ap cp, s3 = .slice ap (intsL (ns.take k)).length cp ∧ Hid (OwnB wr w.heap.size (.slice ap (intsL (ns.take k)).length cp) (intsL (ns.take k)) ∧ Mod (fun _ => False) w wr)) (fun _ s8 _ => n - (intOf s8).toNat)
  case atStart => exact ⟨0, Nat.zero_le _, rfl, none, 0, rfl, ⟨OwnB.nil _ _, Mod.refl _ _⟩⟩
  case round =>
    obtain ⟨k, hk, rfl, ap, cp, rfl, HR⟩ := hrel
    by_cases hkn : (k : Int) < n
    · have hkl : k < ns.length := by have := HN.out; omega
      have hs : ns[k]? = some ns[k] := List.getElem?_eq_getElem hkl
      generalize ns[k] = x at hs
      obtain ⟨b, off, cp0, hv, _, _, hcs⟩ := ints_addr HV.out (by rintro rfl; simp at hkl)
      simp only [Value.slice.injEq] at hv
      obtain ⟨rfl, _, rfl⟩ := hv
      have g0 := HR.out.2.cellAt (hcs k x hs) (fun h => h)
      obtain ⟨acc, hacc⟩ : ∃ l, l = intsL (ns.take k) := ⟨_, rfl⟩
      rw [← hacc] at HR ⊢
      obtain ⟨L, hL⟩ : ∃ l, l = intsL (ns.take (k + 1)) := ⟨_, rfl⟩
      have HL : Hid (L = acc ++ putL x) := by show _ = _; rw [hL, hacc, take_snoc ns k x hs]; simp [intsL]
      have HLEN : Hid ((L.length : Int) ≤ 140737488355328) := by
        show _ ≤ _
        have := intsL_len (ns.take (k + 1))
        rw [← hL] at this
        have h2 : (ns.take (k + 1)).length ≤ 1000 := by rw [List.length_take]; omega
        omega
      have HLL := Lib.hid hL
      clear hcs hs hkl hacc hL
      go_wp2_with fail
      refine (put_any x wr (HR.out.2.tabs HT.out (fun h => h))).mono ?_
      rintro e w2 ⟨v2, rfl, ho2, hM2⟩
      have HB2 := Lib.hid ho2.byts
      obtain ⟨a2, c2, rfl, _⟩ := byts_val ho2.byts
      have HM2 := Lib.hid hM2
      have HLS : Hid (acc.length + (putL x).length = L.length) := by show _ = _; rw [HL.out]; simp
      clear ho2 hM2
      generalize hpx : putL x = px at *
      clear hpx
      generalize hla : acc.length = la at *
      generalize hlp : px.length = lp at *
      generalize hll : L.length = ll at *
      have HLA := Lib.hid hla
      have HLP := Lib.hid hlp
      have HLLn := Lib.hid hll
      clear hla hlp hll
      go_wp2_with (at_builtin; go_must (refine wpList_append_b rfl (.tmp 12) (.tmp 14) (by rfl) (.slice ap la cp) acc w.heap.size ll (by rfl) (HR.out.1.keptF HM2.out) _ px (by rfl) HB2.out L HL.out (by rw [HLA.out, HLP.out]; exact HLS.out) HLEN.out (HR.out.2.trans HM2.out).size ?_); intro ap5 cp5 W5 hA5)
      go_roundw
      case rel => exact ⟨k + 1, by omega, by go_num, ap5, cp5, by rw [← HLL.out, HLLn.out], by rw [← HLL.out, HLLn.out]; exact ⟨hA5.own, hA5.modF (HR.out.2.trans HM2.out) (Nat.le_refl _)⟩⟩
      case measure => simp [intOf]; omega
    · have hkn' : k = n := by omega
      have hall : ns.take k = ns := List.take_of_length_le (by have := HN.out; omega)
      rw [hall] at HR ⊢
      obtain ⟨L, hL⟩ : ∃ l, l = intsL ns := ⟨_, rfl⟩
      rw [← hL] at HR ⊢
      have HLL := Lib.hid hL
      clear hall hL
      generalize L.length = ll at *
      go_wp2
      go_ret
      exact ⟨_, rfl, by rw [← HLL.out]; exact HR.out.1, HR.out.2⟩
set_option maxRecDepth 10000 in
theorem data_any {w : World} {v : Value} {l : List UInt8} (hT : Tabs w) (hv : Byts w v l) (hn : (l.length : Int) ≤ 100000) :
    Calls Tryd.prog 27 #[v] w fun e w' => ∃ v', e = .returned v' ∧ OwnB w' w.heap.size v' (dataL l) ∧ Mod (fun _ => False) w w' := by
  have HV := Lib.hid hv
  have HT := Lib.hid hT
  obtain ⟨a, cap, rfl, hcap, _⟩ := byts_val hv
  have HP := Lib.hid (put_any l.length w hT)
  have hw : IntKind.u64.wrap (l.length : Int) = l.length := IntWalk.u64_in _ (by omega)
  have HD : Hid (dataL l = putL l.length ++ l) := rfl
  have HL8 := Lib.hid (putL_len l.length)
  obtain ⟨n, hnn⟩ : ∃ n, n = l.length := ⟨_, rfl⟩
  rw [← hnn] at hn hcap HP HD HL8 HV hw ⊢
  have HN := Lib.hid hnn
  clear hv hT hnn
  go_enter Tryd.func27, Tryd.ntmps27
  go_wp2_with fail
  refine (HP.out).mono ?_
  rintro e w1 ⟨v1, rfl, ho1, hM1⟩
  have HO1 := Lib.hid ho1
  have HM1 := Lib.hid hM1
  have HV1 := Lib.hid (byts_kept HV.out hM1)
  obtain ⟨a1, c1, rfl, _⟩ := byts_val ho1.byts
  clear ho1 hM1 HP
  generalize putL n = p at *
  generalize hlp : p.length = lp at *
  have HLP := Lib.hid hlp
  have HLL : Hid (((lp + n : Nat) : Int) ≤ 140737488355328) := by show _ ≤ _; have := HL8.out; omega
  clear hlp
  go_wp2_with (at_builtin; go_must (refine wpList_append_b rfl (.tmp 6) (.tmp 7) (by rfl) (.slice a1 lp c1) p w.heap.size (lp + n) (by rfl) HO1.out _ l (by rfl) HV1.out (p ++ l) rfl (by rw [HLP.out, HN.out]) HLL.out HM1.out.size ?_); intro ap5 cp5 W5 hA5)
  go_ret
  exact ⟨_, rfl, by rw [HD.out]; exact hA5.own, hA5.modF HM1.out (Nat.le_refl _)⟩
end Go.Proofs.YteegonadodmeeaaDoor
