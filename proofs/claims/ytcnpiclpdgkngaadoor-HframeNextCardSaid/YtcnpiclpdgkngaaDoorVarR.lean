/- The contracts of the document's answer's reader. -/
import Derived.Test.YtcnpiclpdgkngaaDoorVarF
import Derived.Deep.RegionLaw
namespace Go.Proofs.YtcnpiclpdgkngaaDoor
open Go.RowKit

/-- The document's reader in memory: its bytes lie where they came in. -/
def Ref (w : World) (tb : Nat) (a : Option Addr) (cap : Nat) (L : List UInt8) (k : Nat) (e : Int) : Prop :=
  Blk w tb #[.slice a L.length cap, .int .i64 (k : Int), .int .i64 e] 70 ∧ Byts w (.slice a L.length cap) L ∧ k ≤ L.length ∧ L.length ≤ 5000 ∧ (L ≠ [] → ∀ x, a = some x → x.block ≠ tb)
/-- Its state. -/
def refS (L : List UInt8) (k : Nat) (e : Int) : RS := ⟨if e = 0 then L.drop k else [], e⟩

theorem Mod.ref {S : Nat → Prop} {w w' : World} {tb cap k : Nat} {a : Option Addr} {L : List UInt8} {e : Int} (h : Mod S w w') (hr : Ref w tb a cap L k e) (h1 : ¬ S tb) (h2 : L ≠ [] → ∀ x, a = some x → ¬ S x.block) : Ref w' tb a cap L k e := by
  obtain ⟨h3, h4, h5, h6, h7⟩ := hr
  exact ⟨h.blk h3 h1, h.sl h4 (fun hx g hg => by
    cases a with
    | none => simp [blockOf] at hg
    | some x => simp [blockOf] at hg; subst hg; exact h2 (by simpa using hx) x rfl), h5, h6, h7⟩
theorem Ref.heap {w w' : World} {tb cap k : Nat} {a : Option Addr} {L : List UInt8} {e : Int} (hr : Ref w tb a cap L k e) (h : w'.heap = w.heap) : Ref w' tb a cap L k e := by
  obtain ⟨h3, h4, h5, h6, h7⟩ := hr
  exact ⟨h3.heap h, h4.heap h, h5, h6, h7⟩

set_option maxRecDepth 10000 in
theorem refleft_any {w : World} {tb cap k : Nat} {a : Option Addr} {L : List UInt8} {e : Int} (h : Ref w tb a cap L k e) :
    Calls Tryd.prog 40 #[.pointer (some ⟨tb, 0, none⟩)] w fun x w' => (∃ q, w.drewN q = w') ∧ x = .returned (.int .i64 ((refS L k e).l.length : Int)) := by
  obtain ⟨hb, _, hk, h3, _⟩ := h
  have hc0 : w.cell? ⟨tb, 0, none⟩ = some (.slice a L.length cap) := hb.cellAt 0 rfl
  have hc1 : w.cell? ⟨tb, 1, none⟩ = some (.int .i64 (k : Int)) := hb.cellAt 1 rfl
  have hc2 : w.cell? ⟨tb, 2, none⟩ = some (.int .i64 e) := hb.cellAt 2 rfl
  obtain ⟨n, hn⟩ : ∃ n, n = L.length := ⟨_, rfl⟩
  rw [← hn] at hc0 hk h3
  have hki : (k : Int) ≤ n := by omega
  have h3i : (n : Int) ≤ 5000 := by omega
  by_cases he : e = 0
  · have hs : ((refS L k e).l.length : Int) = (n : Int) - k := by simp [refS, he]; omega
    have t0 : (e != 0) = false := by simp [he]
    have hw : IntKind.i64.wrap ((n : Int) - k) = (n : Int) - k := IntWalk.i64_in _ (by omega)
    have HS := Lib.hid hs
    clear he hs hb hn hk h3
    go_enter Tryd.func40, Tryd.ntmps40
    go_wp2
    go_quiet (fail)
    go_wp2
    go_ret
    exact ⟨⟨_, rfl⟩, by rw [HS.out]; rfl⟩
  · have hs : ((refS L k e).l.length : Int) = 0 := by simp [refS, he]
    have t0 : (e != 0) = true := by simp [he]
    have HS := Lib.hid hs
    clear he hs hb hn hk h3
    go_enter Tryd.func40, Tryd.ntmps40
    go_wp2
    go_ret
    exact ⟨⟨0, rfl⟩, by rw [HS.out]; rfl⟩
set_option maxRecDepth 10000 in
theorem reffail_any {w : World} {tb cap k : Nat} {a : Option Addr} {L : List UInt8} {e : Int} (e' : Int) (h : Ref w tb a cap L k e) :
    Calls Tryd.prog 62 #[.pointer (some ⟨tb, 0, none⟩), .int .i64 e'] w fun x w' => x = .returned (.tuple #[]) ∧ Ref w' tb a cap L k (if e = 0 then e' else e) ∧ Mod (fun k => k = tb) w w' := by
  have H := Lib.hid h
  obtain ⟨hb, hby, hk, h3, h4⟩ := h
  have HB := Lib.hid hb
  have H4 := Lib.hid h4
  have hc2 : w.cell? ⟨tb, 2, none⟩ = some (.int .i64 e) := hb.cellAt 2 rfl
  have hf2 := hb.free 2
  by_cases he : e = 0
  · have t0 : (e == 0) = true := by simp [he]
    rw [if_pos he]
    clear he hb hby hk h3 h4
    go_enter Tryd.func62, Tryd.ntmps62
    go_wp2
    go_end0
    have hm : Mod (fun k => k = tb) w (w.setCell ⟨tb, 2, none⟩ (.int .i64 e')) := (Mod.refl (fun k => k = tb) w).setCell (fun _ => rfl) _
    obtain ⟨_, hby, hk, h3, h4⟩ := H.out
    refine ⟨rfl, ⟨HB.out.set 2 _, hm.sl hby (fun hx g hg => ?_), hk, h3, h4⟩, hm⟩
    cases a with
    | none => simp [blockOf] at hg
    | some x => simp [blockOf] at hg; subst hg; exact h4 (by simpa using hx) x rfl
  · have t0 : (e == 0) = false := by simp [he]
    rw [if_neg he]
    clear he hb hby hk h3 h4
    go_enter Tryd.func62, Tryd.ntmps62
    go_wp2
    go_end0
    exact ⟨rfl, H.out, Mod.refl _ _⟩

theorem step_append_sl {P : Program} {w : World} {ops : Array Oper} {o : Oper} {a : Act} {K : Act → World → Prop} {Q : Exit → Act → World → Prop} {E : Prop} (hgd : o.guard = none) (s x : Operand) (t : TypeId)
    (ho : o.op = .call { callee := .builtin .append, args := #[s, x], argTypes := #[t, t] })
    (base : Nat) (e : TypeId) (i : TypeInfo) (z : Value) (size bytes : Nat) (ht : P.underlying t = some (.slice e)) (hi : P.info? e = some i) (hz : i.zero = some z)
    (hsize : i.size = size) (hby : i.bytes = bytes) (hzs : z.cells.size = size) (hsz : 0 < size)
    (v : Value) (n : Nat) (xs : List Value) (hs : a.eval s = v) (hown : w.ownsRow base e size v n xs)
    (sv : Value) (m : Nat) (news : List Value) (hx : a.eval x = sv) (hsl : Sl w size sv m news) (h1 : ∀ u ∈ news, u.oneCell' = true)
    (hbytes : (n + m) * bytes ≤ 140737488355328) (hb0 : 0 < bytes) (hbase : base ≤ w.heap.size)
    (h : ∀ v' w', w'.ownsRow base e size v' (n + m) (xs ++ news) → w.grownBy w' v.ownBlock → K (a.put o.dst v') w') :
    if Region.wanted o (yielded ops a.tmps) = true then Oper.wp P o a w K Q else E := by
  have hw : Region.wanted o (yielded ops a.tmps) = true := by simp [Region.wanted, hgd]
  rw [if_pos hw]
  have h63 : n + m ≤ maxLen := by
    have := Nat.le_trans (Nat.le_mul_of_pos_right (n + m) hb0) hbytes
    unfold maxLen; omega
  obtain ⟨hl, ao, c, rfl, hc1, hc2, hc3, hc4⟩ := hsl
  cases ao with
  | none =>
    obtain rfl := hc3 rfl
    obtain rfl : m = 0 := by omega
    obtain rfl : news = [] := List.eq_nil_of_length_eq_zero (by simpa using hl)
    have hrun := run_append_owned_none (P := P) (w := w) base t o.type e i size ht hi v n xs hown
    unfold Oper.wp
    simp [execOp, ho, resolve, invoke, builtin, hs, hx, hrun, Result.andThen]
    exact h v w (by simpa using hown) (World.grownBy.refl _ _)
  | some ad =>
    refine wp_append_own w s x t ho base e i z size bytes ht hi hz hsize hby hzs hsz v n xs hs hown ad m c news hx hl ?_ h1 h63 hbytes hbase (fun v' w' h2 h3 _ => h v' w' h2 h3)
    intro j u hu
    obtain ⟨b, off, he, hcell⟩ := hc4 j u hu
    simp at he; subst he
    rw [Addr.add_lit]; exact hcell

theorem sl_sub {w : World} {a : Option Addr} {cap k n : Nat} {L : List UInt8} (h : Byts w (.slice a L.length cap) L) (hk : k + n ≤ L.length) (_hc : ¬ cap = k) :
    Sl w 1 (.slice (a.map (fun x => x.add k)) n (cap - k)) n (((L.drop k).take n).map bv) := by
  obtain ⟨h1, a', cap', he, h2, h3, h4, h5⟩ := h
  simp at he
  obtain ⟨rfl, rfl⟩ := he
  refine ⟨by simp; omega, _, _, rfl, by omega, by omega, fun e => ?_, fun j u hu => ?_⟩
  · have := h4 (by simpa using e)
    omega
  · rw [List.getElem?_map, List.getElem?_take] at hu
    split at hu
    · rw [List.getElem?_drop] at hu
      obtain ⟨b, off, rfl, hcell⟩ := h5 (k + j) u (by rw [List.getElem?_map]; exact hu)
      refine ⟨b, off + k, ?_, by rw [Nat.add_assoc]; exact hcell⟩
      simp only [Option.map_some, Option.some.injEq]
      unfold Addr.add
      split
      · simp_all
      · rfl
    · simp at hu

theorem own_mono {w : World} {B B' : Nat} {e : TypeId} {size n : Nat} {v : Value} {xs : List Value} (h : w.ownsRow B e size v n xs) (hB : B' ≤ B) : w.ownsRow B' e size v n xs := by
  obtain ⟨h1, h2⟩ := h
  refine ⟨h1, ?_⟩
  rcases h2 with h2 | ⟨g, cap, cur, hv, hg, r⟩
  · exact .inl h2
  · exact .inr ⟨g, cap, cur, hv, by omega, r⟩
theorem refbytes_end {w wx w1 : World} {tb cap k n : Nat} {a : Option Addr} {L : List UInt8} {v' : Value} (h : Ref w tb a cap L k 0) (hM : Mod (fun k => k = tb) w wx)
    (hB : Blk wx tb (#[.slice a L.length cap, .int .i64 (k : Int), .int .i64 0].setIfInBounds 1 (.int .i64 ((k : Int) + n))) 70)
    (hown : w1.ownsRow wx.heap.size 5 1 v' n (((L.drop k).take n).map bv)) (hgrow : (wx.alloc (.cells #[] 5)).drew.grownBy w1 (Value.slice (some ⟨wx.heap.size, 0, none⟩) 0 0).ownBlock) (hn : k + n ≤ L.length) :
    OwnB w1 w.heap.size v' ((L.drop k).take n) ∧ Ref w1 tb a cap L (k + n) 0 ∧ Mod (fun k => k = tb) w w1 := by
  have hM1 : Mod (fun _ => False) wx w1 := (((Mod.refl (fun _ => False) wx).alloc _).drew).grown hgrow (fun j hj hlt => Nat.lt_irrefl _ ((Option.some.inj hj).symm ▸ hlt))
  have hM2 : Mod (fun k => k = tb) w w1 := hM.trans (hM1.mono (fun _ _ h => h.elim))
  refine ⟨?_, ⟨hB.mod hM1, ?_, hn, h.2.2.2.1, h.2.2.2.2⟩, hM2⟩
  · unfold OwnB
    have e : ((L.drop k).take n).length = n := by rw [List.length_take, List.length_drop]; omega
    rw [e]
    exact own_mono hown hM.size
  · refine hM2.sl h.2.1 (fun hx g hg => ?_)
    cases a with
    | none => simp [blockOf] at hg
    | some x => simp [blockOf] at hg; subst hg; exact h.2.2.2.2 (by simpa using hx) x rfl

set_option maxHeartbeats 1000000 in
set_option maxRecDepth 10000 in
theorem refbytes_some {w : World} {tb cap k : Nat} {a : Option Addr} {L : List UInt8} (n : Nat) (h : Ref w tb a cap L k 0) (hn : k + n ≤ L.length) (hck : ¬ cap = k) :
    Calls Tryd.prog 39 #[.pointer (some ⟨tb, 0, none⟩), .int .u64 (n : Int)] w fun x w' => ∃ v, x = .returned v ∧ OwnB w' w.heap.size v ((L.drop k).take n) ∧ Ref w' tb a cap L (k + n) 0 ∧ Mod (fun k => k = tb) w w' := by
  have H := Lib.hid h
  have HL := Lib.hid (refleft_any h)
  obtain ⟨hb, hby, hk, h3, h4⟩ := h
  obtain ⟨hlc, hcm⟩ : L.length ≤ cap ∧ cap ≤ maxLen := by
    obtain ⟨_, _, _, he, h1, h2, _⟩ := hby
    simp at he; obtain ⟨_, rfl⟩ := he; exact ⟨h1, h2⟩
  unfold maxLen at hcm
  have HB := Lib.hid hb
  have hc0 : w.cell? ⟨tb, 0, none⟩ = some (.slice a L.length cap) := hb.cellAt 0 rfl
  have hc1 : w.cell? ⟨tb, 1, none⟩ = some (.int .i64 (k : Int)) := hb.cellAt 1 rfl
  have hc2 : w.cell? ⟨tb, 2, none⟩ = some (.int .i64 0) := hb.cellAt 2 rfl
  have hf1 := hb.free 1
  have hsub : Hid (∀ w', Mod (fun k => k = tb) w w' → Sl w' 1 (.slice (a.map (fun x => x.add k)) n (cap - k)) n (((L.drop k).take n).map bv)) := by
    intro w' hM
    refine hM.sl (sl_sub hby hn hck) (fun hx g hg e => ?_)
    subst e
    cases ha : a with
    | none => rw [ha] at hg; simp [blockOf] at hg
    | some x =>
      rw [ha] at hg
      simp only [Option.map_some, blockOf, Option.some.injEq] at hg
      refine h4 (by rintro rfl; simp at hx) x ha ?_
      rw [← hg]
      unfold Addr.add
      split <;> rfl
  have hlen : ((refS L k 0).l.length : Int) = (L.length : Int) - k := by simp [refS]; omega
  obtain ⟨m, hm⟩ : ∃ m, m = L.length := ⟨_, rfl⟩
  rw [← hm] at hc0 hk h3 hn hlc hlen
  have HM := Lib.hid hm
  rw [hlen] at HL
  have hki : (k : Int) ≤ m := by omega
  have hni : (k : Int) + n ≤ m := by omega
  have h3i : (m : Int) ≤ 5000 := by omega
  have hci : (cap : Int) ≤ 9223372036854775807 := by omega
  have hmc : (m : Int) ≤ cap := by omega
  have hc1' : ∀ v, (w.setCell ⟨tb, 1, none⟩ v).cell? ⟨tb, 0, none⟩ = some (.slice a m cap) := fun v => by rw [hm]; exact (HB.out.set 1 v).cellAt 0 rfl
  have hc1'' : ∀ v, (w.setCell ⟨tb, 1, none⟩ v).cell? ⟨tb, 1, none⟩ = some v := fun v => (HB.out.set 1 v).cellAt 1 rfl
  obtain ⟨i0, hi, hz0, hz1, hz2⟩ := info_parts Tryd.info5
  clear hb hby hk h3 h4 hm hn hlc hcm hlen
  go_enter Tryd.func39, Tryd.ntmps39
  go_wp2_with (go_at_call 40; refine (HL.out).mono ?_; rintro e w' ⟨⟨q, rfl⟩, rfl⟩)
  have hM : Mod (fun k => k = tb) w ((w.drewN q).setCell ⟨tb, 1, none⟩ (.int .i64 ((k : Int) + n))) := ((Mod.refl (fun k => k = tb) w).drewN q).setCell (fun _ => rfl) _
  have d0 : ((w.drewN q).setCell ⟨tb, 1, none⟩ (.int .i64 ((k : Int) + n))).cell? ⟨tb, 0, none⟩ = some (.slice a m cap) := hc1' _
  have d1 : ((w.drewN q).setCell ⟨tb, 1, none⟩ (.int .i64 ((k : Int) + n))).cell? ⟨tb, 1, none⟩ = some (.int .i64 ((k : Int) + n)) := hc1'' _
  have HBx : Hid (Blk ((w.drewN q).setCell ⟨tb, 1, none⟩ (.int .i64 ((k : Int) + n))) tb _ _) := HB.out.set 1 (.int .i64 ((k : Int) + n))
  generalize (w.drewN q).setCell ⟨tb, 1, none⟩ (.int .i64 ((k : Int) + n)) = wx at *
  have hw1 : IntKind.i64.wrap (n : Int) = n := IntWalk.i64_in _ (by omega)
  have hw2 : IntKind.i64.wrap (k : Int) = k := IntWalk.i64_in _ (by omega)
  have hw3 : ((k : Int) + n).toNat = k + n := by omega
  have hkn : (k : Int) ≤ (k : Int) + n := by omega
  have hknc : (k : Int) + n ≤ cap := by omega
  have htb := HBx.out.lt
  have hsl : Hid (Sl (wx.alloc (.cells #[] 5)).drew 1 (.slice (a.map (fun x => x.add k)) n (cap - k)) n (((L.drop k).take n).map bv)) := (hsub.out wx hM).kept (((Mod.refl (fun _ => False) wx).alloc _).drew) (fun _ _ h => h)
  have hown : Hid ((wx.alloc (.cells #[] 5)).drew.ownsRow wx.heap.size 5 1 (.slice (some ⟨wx.heap.size, 0, none⟩) 0 0) 0 []) := World.ownsRow_made wx #[] 0 (Nat.le_refl _) (by decide) rfl
  have hnb : Hid ((0 + n) * 1 ≤ 140737488355328) := by show _ ≤ _; omega
  have hbase : Hid (wx.heap.size ≤ (wx.alloc (.cells #[] 5)).drew.heap.size) := by show _ ≤ _; simp
  clear hc0 hc1 hc2 hf1 hc1' hc1''
  go_region_law (refine step_append_sl rfl (.tmp 28) (.tmp 44) 24 rfl wx.heap.size 5 i0 (.int .u8 0) 1 1 Tryd.underlying24 hi hz0 hz1 hz2 rfl (by decide) _ 0 [] (by simp [Act.eval, Act.put]) hown.out _ n (((L.drop k).take n).map bv) (by simp [Act.eval, Act.put]) hsl.out (bv_one _) hnb.out (by decide) hbase.out ?_; intro v' w1 hown' hgrow)
  all_goals go_wp2
  all_goals go_ret
  all_goals exact ⟨v', rfl, refbytes_end H.out hM HBx.out (by simpa using hown') hgrow (by have := HM.out; omega)⟩
end Go.Proofs.YtcnpiclpdgkngaaDoor
