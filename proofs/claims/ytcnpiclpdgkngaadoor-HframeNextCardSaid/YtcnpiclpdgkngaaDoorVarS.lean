/- The contracts of the document's answer's reader: so many bytes, a byte, an integer. -/
import Derived.Test.YtcnpiclpdgkngaaDoorVarR
namespace Go.Proofs.YtcnpiclpdgkngaaDoor
open Go.RowKit

def RefS (w : World) (tb : Nat) (a : Option Addr) (cap : Nat) (L : List UInt8) (s : RS) : Prop := ∃ k e, s = refS L k e ∧ Ref w tb a cap L k e
theorem RefS.heap {w w' : World} {tb cap : Nat} {a : Option Addr} {L : List UInt8} {s : RS} (hr : RefS w tb a cap L s) (h : w'.heap = w.heap) : RefS w' tb a cap L s := by
  obtain ⟨k, e, hs, hr⟩ := hr; exact ⟨k, e, hs, hr.heap h⟩
theorem Mod.refs {S : Nat → Prop} {w w' : World} {tb cap : Nat} {a : Option Addr} {L : List UInt8} {s : RS} (h : Mod S w w') (hr : RefS w tb a cap L s) (h1 : ¬ S tb) (h2 : L ≠ [] → ∀ x, a = some x → ¬ S x.block) : RefS w' tb a cap L s := by
  obtain ⟨k, e, hs, hr⟩ := hr; exact ⟨k, e, hs, h.ref hr h1 h2⟩

set_option maxHeartbeats 1000000 in
set_option maxRecDepth 10000 in
theorem refbytes_edge {w : World} {tb k : Nat} {a : Option Addr} {L : List UInt8} (h : Ref w tb a k L k 0) :
    Calls Tryd.prog 39 #[.pointer (some ⟨tb, 0, none⟩), .int .u64 0] w fun x w' => ∃ v, x = .returned v ∧ OwnB w' w.heap.size v [] ∧ Ref w' tb a k L k 0 ∧ Mod (fun k => k = tb) w w' := by
  have H := Lib.hid h
  have HL := Lib.hid (refleft_any h)
  obtain ⟨hb, hby, hk, h3, h4⟩ := h
  have hlc : L.length ≤ k := by
    obtain ⟨_, _, _, he, h1, h2, _⟩ := hby
    simp at he; obtain ⟨_, rfl⟩ := he; exact h1
  have hLk : L.length = k := by omega
  have HB := Lib.hid hb
  have hc0 : w.cell? ⟨tb, 0, none⟩ = some (.slice a L.length k) := hb.cellAt 0 rfl
  rw [hLk] at hc0
  have hc1 : w.cell? ⟨tb, 1, none⟩ = some (.int .i64 (k : Int)) := hb.cellAt 1 rfl
  have hc2 : w.cell? ⟨tb, 2, none⟩ = some (.int .i64 0) := hb.cellAt 2 rfl
  have hf1 := hb.free 1
  have hnone : Hid (a = none → k = 0) := by
    obtain ⟨_, a', cap', he, h1, h2, h3, _⟩ := hby
    simp at he; obtain ⟨rfl, rfl⟩ := he; exact h3
  have hlen : ((refS L k 0).l.length : Int) = 0 := by simp [refS]; omega
  rw [hlen] at HL
  have hki : (k : Int) ≤ 5000 := by omega
  have hc1' : ∀ v, (w.setCell ⟨tb, 1, none⟩ v).cell? ⟨tb, 0, none⟩ = some (.slice a k k) := fun v => by
    have := (HB.out.set 1 v).cellAt 0 rfl
    rw [hLk] at this; exact this
  have hc1'' : ∀ v, (w.setCell ⟨tb, 1, none⟩ v).cell? ⟨tb, 1, none⟩ = some v := fun v => (HB.out.set 1 v).cellAt 1 rfl
  have HLK := Lib.hid hLk
  obtain ⟨i0, hi, hz0, hz1, hz2⟩ := info_parts Tryd.info5
  clear hb hby hk h3 h4 hlc hlen hLk
  go_enter Tryd.func39, Tryd.ntmps39
  go_wp2_with (go_at_call 40; refine (HL.out).mono ?_; rintro e w' ⟨⟨q, rfl⟩, rfl⟩)
  have hM : Mod (fun k => k = tb) w ((w.drewN q).setCell ⟨tb, 1, none⟩ (.int .i64 (k : Int))) := ((Mod.refl (fun k => k = tb) w).drewN q).setCell (fun _ => rfl) _
  have d0 : ((w.drewN q).setCell ⟨tb, 1, none⟩ (.int .i64 (k : Int))).cell? ⟨tb, 0, none⟩ = some (.slice a k k) := hc1' _
  have d1 : ((w.drewN q).setCell ⟨tb, 1, none⟩ (.int .i64 (k : Int))).cell? ⟨tb, 1, none⟩ = some (.int .i64 (k : Int)) := hc1'' _
  have HBx : Hid (Blk ((w.drewN q).setCell ⟨tb, 1, none⟩ (.int .i64 (k : Int))) tb _ _) := HB.out.set 1 (.int .i64 (k : Int))
  generalize (w.drewN q).setCell ⟨tb, 1, none⟩ (.int .i64 (k : Int)) = wx at *
  have hw2 : IntKind.i64.wrap (k : Int) = k := IntWalk.i64_in _ (by omega)
  have hw0 : IntKind.i64.wrap (0 : Int) = 0 := IntWalk.i64_in _ (by omega)
  have htb := HBx.out.lt
  have hsl : Hid (Sl (wx.alloc (.cells #[] 5)).drew 1 (.slice a 0 0) 0 []) := ⟨rfl, a, 0, rfl, Nat.le_refl _, by decide, fun _ => rfl, fun _ _ h => by simp at h⟩
  have hown : Hid ((wx.alloc (.cells #[] 5)).drew.ownsRow wx.heap.size 5 1 (.slice (some ⟨wx.heap.size, 0, none⟩) 0 0) 0 []) := World.ownsRow_made wx #[] 0 (Nat.le_refl _) (by decide) rfl
  have hbase : Hid (wx.heap.size ≤ (wx.alloc (.cells #[] 5)).drew.heap.size) := by show _ ≤ _; simp
  clear hc0 hc1 hc2 hf1 hc1' hc1''
  go_region_law (refine step_append_sl rfl (.tmp 28) (.tmp 44) 24 rfl wx.heap.size 5 i0 (.int .u8 0) 1 1 Tryd.underlying24 hi hz0 hz1 hz2 rfl (by decide) _ 0 [] (by simp [Act.eval, Act.put]) hown.out _ 0 [] (by simp [Act.eval, Act.put]) hsl.out (fun _ h => by simp at h) (by decide) (by decide) hbase.out ?_; intro v' w1 hown' hgrow)
  all_goals go_wp2
  all_goals go_ret
  all_goals
    have hM1 : Mod (fun _ => False) wx w1 := (((Mod.refl (fun _ => False) wx).alloc _).drew).grown hgrow (fun j hj hlt => Nat.lt_irrefl _ ((Option.some.inj hj).symm ▸ hlt))
    have hM2 : Mod (fun k => k = tb) w w1 := hM.trans (hM1.mono (fun _ _ h => h.elim))
    refine ⟨v', rfl, own_mono (by simpa using hown') hM.size, ⟨HBx.out.mod hM1, ?_, H.out.2.2.1, H.out.2.2.2.1, H.out.2.2.2.2⟩, hM2⟩
    refine hM2.sl H.out.2.1 (fun hx g hg => ?_)
    cases a with
    | none => simp [blockOf] at hg
    | some x => simp [blockOf] at hg; subst hg; exact H.out.2.2.2.2 (by simpa using hx) x rfl

set_option maxHeartbeats 1000000 in
set_option maxRecDepth 10000 in
theorem refbytes_short {w : World} {tb cap k : Nat} {a : Option Addr} {L : List UInt8} (n : Nat) (h : Ref w tb a cap L k 0) (hn : L.length < k + n) :
    Calls Tryd.prog 39 #[.pointer (some ⟨tb, 0, none⟩), .int .u64 (n : Int)] w fun x w' => x = .returned (.slice none 0 0) ∧ Ref w' tb a cap L k 2 ∧ Mod (fun k => k = tb) w w' := by
  have H := Lib.hid h
  have HL := Lib.hid (refleft_any h)
  obtain ⟨hb, hby, hk, h3, h4⟩ := h
  have HB := Lib.hid hb
  have hc2 : w.cell? ⟨tb, 2, none⟩ = some (.int .i64 0) := hb.cellAt 2 rfl
  have hf2 := hb.free 2
  have hlen : ((refS L k 0).l.length : Int) = (L.length : Int) - k := by simp [refS]; omega
  rw [hlen] at HL
  have hni : (L.length : Int) - k < n := by omega
  have hli : (L.length : Int) ≤ 5000 := by omega
  have hki : (k : Int) ≤ L.length := by omega
  clear hb hby hk h3 h4 hn hlen
  go_enter Tryd.func39, Tryd.ntmps39
  go_wp2_with (go_at_call 40; refine (HL.out).mono ?_; rintro e w' ⟨⟨q, rfl⟩, rfl⟩)
  go_ret
  have hM : Mod (fun k => k = tb) w ((w.drewN q).setCell ⟨tb, 2, none⟩ (.int .i64 2)) := ((Mod.refl (fun k => k = tb) w).drewN q).setCell (fun _ => rfl) _
  refine ⟨rfl, ⟨(HB.out.heap (w' := w.drewN q) rfl).set 2 _, ?_, H.out.2.2.1, H.out.2.2.2.1, H.out.2.2.2.2⟩, hM⟩
  refine hM.sl H.out.2.1 (fun hx g hg => ?_)
  cases a with
  | none => simp [blockOf] at hg
  | some x => simp [blockOf] at hg; subst hg; exact H.out.2.2.2.2 (by simpa using hx) x rfl
set_option maxRecDepth 10000 in
theorem refbytes_bad {w : World} {tb cap k : Nat} {a : Option Addr} {L : List UInt8} {e : Int} (n : Nat) (h : Ref w tb a cap L k e) (he : e ≠ 0) :
    Calls Tryd.prog 39 #[.pointer (some ⟨tb, 0, none⟩), .int .u64 (n : Int)] w fun x w' => x = .returned (.slice none 0 0) ∧ w = w' := by
  obtain ⟨hb, hby, hk, h3, h4⟩ := h
  have hc2 : w.cell? ⟨tb, 2, none⟩ = some (.int .i64 e) := hb.cellAt 2 rfl
  have t0 : (e != 0) = true := by simp [he]
  clear hb hby hk h3 h4 he
  go_enter Tryd.func39, Tryd.ntmps39
  go_wp2
  go_ret
  exact ⟨rfl, rfl⟩
theorem refbytes_any {w : World} {tb cap : Nat} {a : Option Addr} {L : List UInt8} {s : RS} (n : Nat) (h : RefS w tb a cap L s) :
    Calls Tryd.prog 39 #[.pointer (some ⟨tb, 0, none⟩), .int .u64 (n : Int)] w fun x w' => ∃ v, x = .returned v ∧ OwnB w' w.heap.size v (s.bytes n).1 ∧ RefS w' tb a cap L (s.bytes n).2 ∧ Mod (fun k => k = tb) w w' := by
  obtain ⟨k, e, rfl, h⟩ := h
  by_cases he : e = 0
  · subst he
    by_cases hn : k + n ≤ L.length
    · have hs : (refS L k 0).bytes n = ((L.drop k).take n, refS L (k + n) 0) := by
        simp only [refS, RS.bytes, if_true]
        rw [if_neg (by simp), if_neg (by simp; omega), List.drop_drop]
      rw [hs]
      by_cases hck : cap = k
      · subst hck
        have hlc : L.length ≤ cap := by
          obtain ⟨_, _, _, he, h1, h2, _⟩ := h.2.1
          simp at he; obtain ⟨_, rfl⟩ := he; exact h1
        obtain rfl : n = 0 := by omega
        refine (refbytes_edge h).mono fun x w' hx => ?_
        obtain ⟨v, hv, ho, hr, hM⟩ := hx
        exact ⟨v, hv, by simpa using ho, ⟨cap, 0, rfl, hr⟩, hM⟩
      · refine (refbytes_some n h hn hck).mono fun x w' hx => ?_
        obtain ⟨v, hv, ho, hr, hM⟩ := hx
        exact ⟨v, hv, ho, ⟨k + n, 0, rfl, hr⟩, hM⟩
    · have hs : (refS L k 0).bytes n = ([], refS L k 2) := by
        have hk := h.2.2.1
        simp only [refS, RS.bytes, if_true]
        rw [if_neg (by simp), if_pos (by simp; omega)]
        rfl
      rw [hs]
      exact (refbytes_short n h (by omega)).mono fun x w' ⟨h1, h2, h3⟩ => ⟨_, h1, OwnB.nil _ _, ⟨k, 2, rfl, h2⟩, h3⟩
  · have hs : (refS L k e).bytes n = ([], refS L k e) := by
      simp [refS, RS.bytes, he]
    rw [hs]
    exact (refbytes_bad n h he).mono fun x w' ⟨h1, h2⟩ => ⟨_, h1, OwnB.nil _ _, h2 ▸ ⟨k, e, rfl, h⟩, h2 ▸ Mod.refl _ _⟩
end Go.Proofs.YtcnpiclpdgkngaaDoor
