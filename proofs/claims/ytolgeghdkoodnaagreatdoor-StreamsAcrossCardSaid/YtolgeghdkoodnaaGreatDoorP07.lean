/- Parts of the proof: GaM GaN. -/
import Derived.Test.YtolgeghdkoodnaaGreatDoorP03
import Derived.Test.YtolgeghdkoodnaaGreatDoorP05
import Derived.Test.YtolgeghdkoodnaaGreatDoorP06
set_option maxRecDepth 100000
namespace Go.Proofs.YtolgeghdkoodnaaGreatDoor
open Go.RowKit
theorem gaps_snoc : ∀ (l : List (Nat × Nat)) (x q y : Nat × Nat) (k : Nat), (x :: l)[k]? = some q → l[k]? = some y → gapsL x.1 (l.take (k + 1)) = gapsL x.1 (l.take k) ++ intsL [q.1 - y.2 - 2, y.2 - y.1]
 | [], x, q, y, k, _, h => by simp at h
 | z :: l, x, q, y, 0, h1, h2 => by
  simp at h1 h2
  subst h1 h2
  simp [gapsL, intsL]
 | z :: l, x, q, y, k + 1, h1, h2 => by
  have h1' : (z :: l)[k]? = some q := by simpa using h1
  have h2' : l[k]? = some y := by simpa using h2
  rw [List.take_succ_cons, List.take_succ_cons, gapsL, gapsL, gaps_snoc l z q y k h1' h2']
  simp [List.append_assoc]
theorem gaps_len : ∀ (l : List (Nat × Nat)) (p : Nat), (gapsL p l).length ≤ 16 * l.length
 | [], p => by simp [gapsL]
 | x :: l, p => by
  have h := gaps_len l x.1
  have h1 := putL_len (p - x.2 - 2)
  have h2 := putL_len (x.2 - x.1)
  rw [gapsL, List.length_append, List.length_append, List.length_cons]
  omega
theorem OwnB.apart {w : World} {B b : Nat} {v : Value} {l : List UInt8} {C : Array Value} {T : TypeId} (h : OwnB w B v l) (hb : Blk w b C T) (ht : T ≠ 5) : ¬ v.ownBlock = some b := by
 intro e
 rcases h.2 with ⟨rfl, _⟩ | ⟨g, cap, cur, rfl, _, hg, _⟩
 ·simp [Value.ownBlock] at e
 ·simp [Value.ownBlock] at e
  subst e
  exact Blk.ne hb (show Blk w g cur 5 from hg) ht rfl
def ackUp (b : Nat) (x : Nat × Nat) (l : List (Nat × Nat)) (k : Nat) : List UInt8 := intsL [x.2, b, l.length, x.2 - x.1] ++ gapsL x.1 (l.take k)
theorem ackUp_all (b : Nat) (x : Nat × Nat) (l : List (Nat × Nat)) : ackUp b x l l.length = ackL b (x :: l) := by
 unfold ackUp ackL
 rw [List.take_length]
 simp [intsL]
theorem ackUp_len (b : Nat) (x : Nat × Nat) (l : List (Nat × Nat)) (k : Nat) (hl : l.length ≤ 100) : (ackUp b x l k).length ≤ 2000 := by
 unfold ackUp
 have h1 := intsL_len [x.2, b, l.length, x.2 - x.1]
 have h2 := gaps_len (l.take k) x.1
 have h3 : (l.take k).length ≤ 100 := by rw [List.length_take]; omega
 simp only [List.length_append, List.length_cons, List.length_nil] at h1 ⊢
 omega
theorem ints4 {w : World} {hi bb m d : Int} {a b c e : Nat} (h1 : (a : Int) = hi) (h2 : (b : Int) = bb) (h3 : (c : Int) = m) (h4 : (e : Int) = d) : Ints (w.alloc (.cells #[.int .u64 hi, .int .u64 bb, .int .u64 m, .int .u64 d] 26)) (.slice (some ⟨w.heap.size, 0, none⟩) 4 4) [a, b, c, e] := by
 subst h1 h2 h3 h4
 exact ints_lit w [a, b, c, e] _ 4 _ rfl rfl (by decide)
theorem ints2 {w : World} {hi bb : Int} {a b : Nat} (h1 : (a : Int) = hi) (h2 : (b : Int) = bb) : Ints (w.alloc (.cells #[.int .u64 hi, .int .u64 bb] 26)) (.slice (some ⟨w.heap.size, 0, none⟩) 2 2) [a, b] := by
 subst h1 h2
 exact ints_lit w [a, b] _ 2 _ rfl rfl (by decide)
set_option maxHeartbeats 8000000 in
set_option maxRecDepth 10000 in
theorem putack {w : World} {f : Fr} {vd vr : Value} (hT : Tabs w) (hv : FrV w f vd vr) {x : Nat × Nat} {l : List (Nat × Nat)} (hrs : f.rs = x :: l) (hok : ∀ i y, f.rs[i]? = some y → okR (prevOf none f.rs i) y) (hl : l.length ≤ 100) : Puts 112 w f vd vr (ackL f.b f.rs) := by
 unfold Puts
 have HT := Lib.hid hT
 have HV := Lib.hid hv.r
 have HOK := Lib.hid hok
 obtain ⟨ra, rc, rfl, hcap, _⟩ := rg_val hv.r
 have hB := Blk.new w (frC f vd (.slice ra f.rs.length rc)) 52
 have e3 : (frC f vd (.slice ra f.rs.length rc))[3]? = some (.int .u64 (f.b : Int)) := rfl
 have e7 : (frC f vd (.slice ra f.rs.length rc))[7]? = some (.slice ra f.rs.length rc) := rfl
 have HB7 : Hid (∀ X, Mod (fun _ => False) (w.alloc (.cells (frC f vd (.slice ra f.rs.length rc)) 52)) X → X.cell? ⟨w.heap.size, 7, none⟩ = some (.slice ra f.rs.length rc)) := fun X hX => hX.cellAt (hB.cellAt 7 e7) (fun h => h)
 have HB3 : Hid (∀ X, Mod (fun _ => False) (w.alloc (.cells (frC f vd (.slice ra f.rs.length rc)) 52)) X → X.cell? ⟨w.heap.size, 3, none⟩ = some (.int .u64 (f.b : Int))) := fun X hX => hX.cellAt (hB.cellAt 3 e3) (fun h => h)
 have HM0 : Hid (Mod (fun _ => False) w (w.alloc (.cells (frC f vd (.slice ra f.rs.length rc)) 52))) := (Mod.refl _ _).alloc _
 obtain ⟨b, off, cp0, hvv, _, _, hcs⟩ := rg_addr hv.r (by rw [hrs]; simp)
 simp only [Value.slice.injEq] at hvv
 obtain ⟨rfl, _, rfl⟩ := hvv
 have HCS := Lib.hid hcs
 have hx := hcs 0 x (by rw [hrs]; rfl)
 simp only [Nat.zero_mul, Nat.add_zero] at hx
 have hx0 := HM0.out.cellAt hx.1 (fun h => h)
 have hx1 := HM0.out.cellAt hx.2 (fun h => h)
 have hox := hok 0 x (by rw [hrs]; rfl)
 obtain ⟨hx12, hxt, _⟩ := hox
 obtain ⟨n, hnn⟩ : ∃ n, n = f.rs.length := ⟨_, rfl⟩
 have hnl : n = l.length + 1 := by rw [hnn, hrs]; simp
 rw [← hnn] at hcap HB7 HB3 HM0 hx0 hx1 e3 e7 HV ⊢
 have HN := Lib.hid hnn
 unfold frV
 obtain ⟨A, hA⟩ : ∃ A, A = ackL f.b f.rs := ⟨_, rfl⟩
 rw [← hA]
 have HA : Hid (ackUp f.b x l l.length = A) := by show _ = _; rw [hA, hrs]; exact ackUp_all _ _ _
 generalize frC f vd (.slice (some ⟨b, off, none⟩) n rc) = C at *
 obtain ⟨r, hr⟩ : ∃ r, r = f.rs := ⟨_, rfl⟩
 rw [← hr] at hrs HOK HCS HN HV
 have HRS := Lib.hid hrs
 have HAU := Lib.hid (fun k => ackUp_len f.b x l k hl)
 generalize f.b = bn at *
 obtain ⟨m, hm⟩ : ∃ m : Nat, m = l.length := ⟨_, rfl⟩
 rw [← hm] at hnl HA
 have HM := Lib.hid hm
 obtain ⟨hi, hhi⟩ : ∃ z : Int, (x.2 : Int) = z := ⟨_, rfl⟩
 obtain ⟨lo, hlo⟩ : ∃ z : Int, (x.1 : Int) = z := ⟨_, rfl⟩
 obtain ⟨bb, hbb⟩ : ∃ z : Int, (bn : Int) = z := ⟨_, rfl⟩
 rw [hhi] at hx1
 rw [hlo] at hx0
 rw [hbb] at HB3 e3
 obtain ⟨d, hd⟩ : ∃ z : Int, ((x.2 - x.1 : Nat) : Int) = z := ⟨_, rfl⟩
 have hxt' : hi ≤ 4611686018427387903 := by unfold topN at hxt; omega
 have hwd : IntKind.u64.wrap (hi - lo) = d := by rw [show hi - lo = d by omega]; exact IntWalk.u64_in _ (by omega)
 have hm100 : (m : Int) ≤ 100 := by omega
 have hwn : IntKind.i64.wrap ((n : Int) - 1) = (m : Int) := by rw [show (n : Int) - 1 = (m : Int) by omega]; exact IntWalk.i64_in _ (by omega)
 have hwm : IntKind.u64.wrap (m : Int) = (m : Int) := IntWalk.u64_in _ (by omega)
 have hn0 : (0 : Int) < n := by omega
 have hn1 : (1 : Int) ≤ n := by omega
 have hnc : (n : Int) ≤ rc := by omega
 have hrc : (rc : Int) ≤ 9223372036854775807 := by
  have h := HV.out
  obtain ⟨_, a', c', he, h2, h3, _⟩ := h
  simp only [Value.slice.injEq] at he
  obtain ⟨_, _, rfl⟩ := he
  unfold maxLen at h3
  omega
 have HHI := Lib.hid hhi
 have HLO := Lib.hid hlo
 have HBB := Lib.hid hbb
 have HD := Lib.hid hd
 have HNL := Lib.hid hnl
 clear hT hv hrs hok hl hcap hB hcs hx hxt hx12 hnn hnl hA hr hm hhi hlo hbb hd
 go_enter Tryz.func112, Tryz.ntmps112
 go_wp2_with ((with_reducible refine wpList_store_blk ?_ 97 (.tmp 3) (.tmp 10) ?_ (w.heap.size + 1) ?_ #[.int .u64 0, .int .u64 0] #[.int .u64 lo, .int .u64 hi] ?_ 97 (new2 _ _ _ _) (sizeRg _ _) ?_ ?_ ?_); (iterate 5 exact rfl); (· intro v hv; simp at hv; rcases hv with rfl | rfl <;> rfl); intro wx hBx hMx; have HMx := Lib.hid (((Mod.refl (fun _ => False) (w.alloc (.cells C 52))).alloc _).trans' hMx (fun i hi e => by simp at hi; omega)); have x0 : wx.cell? ⟨w.heap.size + 1, 0, none⟩ = some (.int .u64 lo) := hBx.cellAt 0 rfl; have x1 : wx.cell? ⟨w.heap.size + 1, 1, none⟩ = some (.int .u64 hi) := hBx.cellAt 1 rfl; have y3 := HB3.out _ HMx.out; have y7 := HB7.out _ HMx.out; clear hBx hMx hx0 hx1 e3 e7)
 refine (ints_any ((HM0.out.trans HMx.out).alloc _ |>.tabs HT.out (fun h => h)) (ints4 HHI.out HBB.out (congrArg _ HM.out.symm) HD.out) (by simp)).mono ?_
 rintro e w2 ⟨v2, rfl, ho2, hM2⟩
 have HO2 := Lib.hid ho2
 obtain ⟨a2, c2, rfl, _⟩ := byts_val ho2.byts
 have HM2 := Lib.hid ((HMx.out.alloc _).trans hM2)
 have z7 := HB7.out _ HM2.out
 have HSZ : Hid (w.heap.size + 1 ≤ wx.heap.size) := by have h := HMx.out.size; simp at h; exact h
 clear ho2 hM2 x0 x1 y3 y7
 go_wp2
 case inl =>
  have hm0 : m = 0 := by have := HNL.out; omega
  have E30 : n - 1 = 0 := by have := HNL.out; omega
  have hl0 : l = [] := List.eq_nil_of_length_eq_zero (by have := HM.out; omega)
  have HFIN : Hid (OwnB w2 (wx.alloc (.cells #[.int .u64 hi, .int .u64 bb, .int .u64 (m : Int), .int .u64 d] 26)).heap.size (.slice a2 (intsL [x.2, bn, l.length, x.2 - x.1]).length c2) A) := by
   have h := HO2.out
   show OwnB _ _ _ _
   rw [← HA.out]
   have e0 : ackUp bn x l m = intsL [x.2, bn, l.length, x.2 - x.1] := by rw [hm0]; simp [ackUp, gapsL]
   have e1 : ackUp bn x l l.length = ackUp bn x l m := by rw [← HM.out]
   first | (rw [e0]; exact h) | (rw [e1, e0]; exact h)
  rw [E30]
  clear hm0 E30 hl0
  generalize (intsL [x.2, bn, l.length, x.2 - x.1]).length = ll at *
  refine wp_loop_rounds 1 ?_
  rw [rounds_succ]
  go_wp2
  go_ret
  exact ⟨_, rfl, HFIN.out.byts, HM0.out.trans HM2.out⟩
 have E30 : n - 1 = m := by have := HNL.out; omega
 rw [E30]
 clear E30
 go_loopw [4, 31] (fun s4 s31 wr => ∃ k : Nat, k ≤ m ∧ s31 = .int .i64 k ∧ ∃ ap cp, s4 = .slice ap (ackUp bn x l k).length cp ∧ Hid (OwnB wr (w.heap.size + 1) (.slice ap (ackUp bn x l k).length cp) (ackUp bn x l k) ∧ Mod (fun _ => False) (w.alloc (.cells C 52)) wr)) (fun _ s31 _ => m - (intOf s31).toNat)
 case atStart =>
  have e0 : ackUp bn x l 0 = intsL [x.2, bn, l.length, x.2 - x.1] := by simp [ackUp, gapsL]
  exact ⟨0, Nat.zero_le _, rfl, a2, c2, by rw [e0], by rw [e0]; exact ⟨HO2.out.mono (by have := HSZ.out; simp; omega), HM2.out⟩⟩
 case round =>
  clear HO2 HM2 z7
  obtain ⟨k, hk, rfl, ap, cp, rfl, HR⟩ := hrel
  have z7 := HB7.out _ HR.out.2
  by_cases hkn : (k : Int) < m
  ·have hkl : k < l.length := by have := HM.out; omega
   have hs : l[k]? = some l[k] := List.getElem?_eq_getElem hkl
   generalize l[k] = y at hs
   obtain ⟨q, hq⟩ : ∃ q, (x :: l)[k]? = some q := ⟨_, List.getElem?_eq_getElem (by simp; omega)⟩
   have hy2 : r[k + 1]? = some y := by rw [HRS.out]; simpa using hs
   have hq2 : r[k]? = some q := by rw [HRS.out]; exact hq
   obtain ⟨q0, _⟩ := HCS.out k q hq2
   obtain ⟨g0, g1⟩ := HCS.out (k + 1) y hy2
   rw [show off + (k + 1) * 2 = off + 2 + k * 2 by omega] at g0 g1
   have hoy := HOK.out (k + 1) y hy2
   have hop := hoy.2.2 q.1 (by simp [prevOf, hq2])
   obtain ⟨hy12, hyt, _⟩ := hoy
   have g0' := (HM0.out.trans HR.out.2).cellAt g0 (fun h => h)
   have g1' := (HM0.out.trans HR.out.2).cellAt g1 (fun h => h)
   obtain ⟨ql, hql⟩ : ∃ z : Int, (q.1 : Int) = z := ⟨_, rfl⟩
   obtain ⟨yl, hyl⟩ : ∃ z : Int, (y.1 : Int) = z := ⟨_, rfl⟩
   obtain ⟨yh, hyh⟩ : ∃ z : Int, (y.2 : Int) = z := ⟨_, rfl⟩
   rw [hql] at q0
   have HQ0 := Lib.hid q0
   rw [hyl] at g0'
   rw [hyh] at g1'
   have hqt : ql ≤ 4611686018427387903 := by
    have h := (HOK.out k q hq2)
    have h1 := h.1
    have h2 := h.2.1
    unfold topN at h2
    omega
   obtain ⟨d1, hd1⟩ : ∃ z : Int, ((q.1 - y.2 - 2 : Nat) : Int) = z := ⟨_, rfl⟩
   obtain ⟨d2, hd2⟩ : ∃ z : Int, ((y.2 - y.1 : Nat) : Int) = z := ⟨_, rfl⟩
   have hw1 : IntKind.u64.wrap (ql - yh) = ql - yh := IntWalk.u64_in _ (by omega)
   have hw2 : IntKind.u64.wrap (ql - yh - 2) = d1 := by rw [show ql - yh - 2 = d1 by omega]; exact IntWalk.u64_in _ (by omega)
   have hw3 : IntKind.u64.wrap (yh - yl) = d2 := by rw [show yh - yl = d2 by omega]; exact IntWalk.u64_in _ (by omega)
   have hkn2 : (k : Int) < n := by have := HNL.out; omega
   have hkc : (k : Int) < rc := by omega
   have hk0 : (0 : Int) ≤ k := by omega
   have HD1 := Lib.hid hd1
   have HD2 := Lib.hid hd2
   have hsn := gaps_snoc l x q y k hq hs
   obtain ⟨acc, hacc⟩ : ∃ t, t = ackUp bn x l k := ⟨_, rfl⟩
   rw [← hacc] at HR ⊢
   obtain ⟨L, hL⟩ : ∃ t, t = ackUp bn x l (k + 1) := ⟨_, rfl⟩
   have HL : Hid (L = acc ++ intsL [q.1 - y.2 - 2, y.2 - y.1]) := by show _ = _; rw [hL, hacc]; unfold ackUp; rw [hsn, List.append_assoc]
   have HLEN : Hid ((L.length : Int) ≤ 140737488355328) := by show _ ≤ _; have := HAU.out (k + 1); rw [← hL] at this; omega
   have HLL := Lib.hid hL
   generalize hla : acc.length = la at *
   have HLA := Lib.hid hla
   generalize hll : L.length = ll at *
   have HLLn := Lib.hid hll
   clear q0 g0 g1 hs hq hy2 hq2 hop hy12 hyt hql hyl hyh hd1 hd2 hsn hacc hL hla hll hkl
   go_wp2_with ((with_reducible refine wpList_store_blk ?_ 97 (.tmp 6) (.tmp 35) ?_ wr.heap.size ?_ #[.int .u64 0, .int .u64 0] #[.int .u64 yl, .int .u64 yh] ?_ 97 (Blk.new _ _ _) (sizeRg _ _) ?_ ?_ ?_); (iterate 5 exact rfl); (· intro v hv; simp at hv; rcases hv with rfl | rfl <;> rfl); intro wy hBy hMy; have HMy := Lib.hid (((Mod.refl (fun _ => False) wr).alloc _).trans' hMy (fun i hi e => by omega)); have HBy := Lib.hid hBy; clear hBy hMy)
   go_frame
   have HW : Hid (Mod (fun _ => False) (w.alloc (.cells C 52)) wy.drew) := (HR.out.2.trans HMy.out).drew
   have s3 : Blk wy.drew wr.heap.size #[.int .u64 yl, .int .u64 yh] 97 := (Mod.refl (fun _ => False) _).drew.blk HBy.out (fun h => h)
   have s4 := Lib.hid (show OwnB wy.drew (w.heap.size + 1) (.slice ap la cp) acc from HR.out.1.keptF HMy.out.drew)
   clear g0' g1' z7
   refine wp_region_held_drew (S := fun X => Blk X wr.heap.size #[.int .u64 yl, .int .u64 yh] 97 ∧ Mod (fun _ => False) (w.alloc (.cells C 52)) X) (by kernel_rfl) ⟨s3, HW.out⟩ (fun hS => ?_)
   clear s3
   refine tk 0 (.slice ap la cp) (some 36) rfl rfl (by kernel_rfl) (fun _ _ _ => id) (Or.inl ⟨by rfl, fun X hX => ?_⟩) hS ?_
   ·go_simp
   (try go_frame); refine tk 1 (.pointer (some ⟨w.heap.size, 7, none⟩)) (some 37) rfl rfl (by kernel_rfl) (fun _ _ _ => id) (Or.inl ⟨by rfl, fun X hX => ?_⟩) hS ?_
   ·go_simp
   (try go_frame); refine tk 2 (.slice (some ⟨b, off, none⟩) n rc) (some 38) rfl rfl (by kernel_rfl) (fun _ _ _ => id) (Or.inl ⟨by rfl, fun X hX => ?_⟩) hS ?_
   ·have := HB7.out _ hX.2; go_simp
   (try go_frame); refine tk 3 (.int .i64 (k : Int)) (some 39) rfl rfl (by kernel_rfl) (fun _ _ _ => id) (Or.inl ⟨by rfl, fun X hX => ?_⟩) hS ?_
   ·go_simp
   (try go_frame); refine tk 4 (.pointer (some ⟨b, off + k * 2, none⟩)) (some 40) rfl rfl (by kernel_rfl) (fun _ _ _ => id) (Or.inl ⟨by rfl, fun X hX => ?_⟩) hS ?_
   ·go_simp
   (try go_frame); refine tk 5 (.pointer (some ⟨b, off + k * 2, none⟩)) (some 41) rfl rfl (by kernel_rfl) (fun _ _ _ => id) (Or.inl ⟨by rfl, fun X hX => ?_⟩) hS ?_
   ·go_simp
   (try go_frame); refine tk 6 (.int .u64 ql) (some 42) rfl rfl (by kernel_rfl) (fun _ _ _ => id) (Or.inl ⟨by rfl, fun X hX => ?_⟩) hS ?_
   ·have := (HM0.out.trans hX.2).cellAt HQ0.out (fun h => h); go_simp
   (try go_frame); refine tk 7 (.pointer (some ⟨wr.heap.size, 1, none⟩)) (some 43) rfl rfl (by kernel_rfl) (fun _ _ _ => id) (Or.inl ⟨by rfl, fun X hX => ?_⟩) hS ?_
   ·go_simp
   (try go_frame); refine tk 8 (.int .u64 yh) (some 44) rfl rfl (by kernel_rfl) (fun _ _ _ => id) (Or.inl ⟨by rfl, fun X hX => ?_⟩) hS ?_
   ·have := hX.1.cellAt 1 rfl; go_simp
   (try go_frame); refine tk 9 (.int .u64 (ql - yh)) (some 45) rfl rfl (by kernel_rfl) (fun _ _ _ => id) (Or.inl ⟨by rfl, fun X hX => ?_⟩) hS ?_
   ·go_simp
   (try go_frame); refine tk 10 (.int .u64 d1) (some 46) rfl rfl (by kernel_rfl) (fun _ _ _ => id) (Or.inl ⟨by rfl, fun X hX => ?_⟩) hS ?_
   ·go_simp
   (try go_frame); refine tk 11 (.pointer (some ⟨wr.heap.size, 1, none⟩)) (some 47) rfl rfl (by kernel_rfl) (fun _ _ _ => id) (Or.inl ⟨by rfl, fun X hX => ?_⟩) hS ?_
   ·go_simp
   (try go_frame); refine tk 12 (.int .u64 yh) (some 48) rfl rfl (by kernel_rfl) (fun _ _ _ => id) (Or.inl ⟨by rfl, fun X hX => ?_⟩) hS ?_
   ·have := hX.1.cellAt 1 rfl; go_simp
   (try go_frame); refine tk 13 (.pointer (some ⟨wr.heap.size, 0, none⟩)) (some 49) rfl rfl (by kernel_rfl) (fun _ _ _ => id) (Or.inl ⟨by rfl, fun X hX => ?_⟩) hS ?_
   ·go_simp
   (try go_frame); refine tk 14 (.int .u64 yl) (some 50) rfl rfl (by kernel_rfl) (fun _ _ _ => id) (Or.inl ⟨by rfl, fun X hX => ?_⟩) hS ?_
   ·have := hX.1.cellAt 0 rfl; go_simp
   (try go_frame); refine tk 15 (.int .u64 d2) (some 51) rfl rfl (by kernel_rfl) (fun _ _ _ => id) (Or.inl ⟨by rfl, fun X hX => ?_⟩) hS ?_
   ·go_simp
   (try go_frame)
   generalize wy.drew = W0 at *
   refine wpAnyH_ready (rs := [16]) (by kernel_rfl) (by simp) ?_
   refine arH rfl fun K hK => ?_
   go_simp
   have hk1 := (Mod.refl (fun _ => False) W0).alloc (.cells #[.int .u64 d1, .int .u64 d2] 26)
   have hI := ints2 (w := W0) HD1.out HD2.out
   refine hK.out _ _ ⟨hk1.blk hS.1 (fun h => h), hS.2.trans hk1⟩ (fun hS => ?_)
   clear hK K
   generalize W0.alloc (.cells #[.int .u64 d1, .int .u64 d2] 26) = W1 at *
   refine wpAnyH_ready (rs := [17]) (by kernel_rfl) (by simp) ?_
   refine arH rfl fun K hK => ?_
   go_simp
   refine (ints_any ((HM0.out.trans hS.2).tabs HT.out (fun h => h)) hI (by simp)).mono ?_
   rintro e W2 ⟨v5, rfl, ho5, hk2⟩
   refine hK.out _ _ ⟨hk2.blk hS.1 (fun h => h), hS.2.trans hk2⟩ (fun hS => ?_)
   clear hK K
   have hown := (s4.out.keptF hk1).keptF hk2
   refine wpAnyH_ready (rs := [18]) (by kernel_rfl) (by simp) ?_
   refine arH rfl fun K hK => ?_
   refine step_append_b rfl (.tmp 36) (.tmp 53) rfl (.slice ap la cp) acc (w.heap.size + 1) ll (by rfl) hown v5 (intsL [q.1 - y.2 - 2, y.2 - y.1]) (by rfl) ho5.byts L HL.out (by rw [← HLLn.out, HL.out, List.length_append, HLA.out]) HLEN.out (by have h := hS.2.size; simp at h; exact h) ?_
   intro ap5 cp5 X3 hA
   (try go_frame)
   have hM3 : Mod (fun _ => False) (w.alloc (.cells C 52)) X3 := hA.modF hS.2 (by simp)
   have hB3 := (hA.mod (w0 := W2) (S := fun k => (Value.slice ap la cp).ownBlock = some k) (Mod.refl _ _) (fun g hg _ => hg)).blk hS.1 (hown.apart hS.1 (by decide))
   refine hK.out _ _ ⟨hB3, hM3⟩ (fun hS => ?_)
   clear hK K
   refine wpAnyH_ready (rs := [19]) (by kernel_rfl) (by simp) ?_
   refine arH rfl fun K hK => ?_
   go_simp
   refine hK.out _ _ hS (fun hS => ?_)
   clear hK K
   refine wpAnyH_done (by kernel_rfl) ?_ _
   have HA5 : Hid (OwnB X3 (w.heap.size + 1) (.slice ap5 ll cp5) L ∧ Mod (fun _ => False) (w.alloc (.cells C 52)) X3) := ⟨hA.own, hS.2⟩
   clear hA hS hM3 hB3 hown ho5 hk1 hk2 hI
   go_wp2_with fail
   go_roundw
   case rel => exact ⟨k + 1, by omega, by go_num, ap5, cp5, by rw [← HLL.out, HLLn.out], by rw [← HLL.out, HLLn.out]; exact HA5.out⟩
   case measure => simp [intOf]; omega
  ·have hkn' : k = m := by omega
   have HKM := Lib.hid hkn'
   clear hkn'
   generalize hll : (ackUp bn x l k).length = ll at *
   clear hll
   have HFIN : Hid (OwnB wr (w.heap.size + 1) (.slice ap ll cp) A) := by have h := HR.out.1; show OwnB _ _ _ _; rw [← HA.out, ← HKM.out]; exact h
   go_wp2
   go_ret
   exact ⟨_, rfl, HFIN.out.byts, HM0.out.trans HR.out.2⟩
end Go.Proofs.YtolgeghdkoodnaaGreatDoor
set_option maxRecDepth 100000
namespace Go.Proofs.YtolgeghdkoodnaaGreatDoor
open Go.RowKit Go.Maps
theorem bit_yes (n : Int) (w : World) : Calls Tryz.prog 63 #[.bool true, .int .i64 n] w fun e w' => w = w' ∧ e = .returned (.int .i64 n) := by
 go_enter Tryz.func63, Tryz.ntmps63
 go_wp2
 go_ret
 exact ⟨rfl, rfl⟩
theorem bit_no (n : Int) (w : World) : Calls Tryz.prog 63 #[.bool false, .int .i64 n] w fun e w' => w = w' ∧ e = .returned (.int .i64 0) := by
 go_enter Tryz.func63, Tryz.ntmps63
 go_wp2
 go_ret
 exact ⟨rfl, rfl⟩
def bitN (b : Bool) (n : Int) : Int := bif b then n else 0
theorem bit_any (b : Bool) (n : Int) (w : World) : Calls Tryz.prog 63 #[.bool b, .int .i64 n] w fun e w' => w = w' ∧ e = .returned (.int .i64 (bitN b n)) := by
 cases b
 ·exact bit_no n w
 ·exact bit_yes n w
set_option maxRecDepth 10000 in
theorem fput_no {w : World} {f : Fr} {vd vr : Value} (hv : FrV w f vd vr) (hrl : (f.rs.length : Int) ≤ 100000) (hok : okKey f.k) (hro : RngOk f) (hr : rightF f = false) :
  Calls Tryz.prog 35 #[frV f vd vr] w fun e w' => ∃ v, e = .returned v ∧ OwnB w' w.heap.size v (fputL f) ∧ Mod (fun _ => False) w w' := by
 have hM := (Mod.refl (fun _ => False) w).alloc (.cells (frC f vd vr) 52)
 have HR := Lib.hid (right_any (hv.kept hM) hrl hok hro)
 rw [hr] at HR
 rw [show fputL f = [] by unfold fputL; rw [hr]; rfl]
 have HW := Lib.hid (loadWhole w f vd vr hv.t)
 have HM := Lib.hid hM
 clear hv hrl hok hro hr hM
 unfold frV at *
 generalize frC f vd vr = C at *
 go_enter Tryz.func35, Tryz.ntmps35
 go_wp2_with (first
  | ((with_reducible refine wpList_load_v 52 (.tmp 1) ?_ ?_ (.pointer (some ⟨w.heap.size, 0, none⟩)) (.agg C) ?_ (HW.out _ rfl) ?_); (iterate 3 exact rfl))
  | fail)
 refine (HR.out).mono ?_
 rintro e w1 ⟨rfl, hM1⟩
 go_wp2_with fail
 go_ret
 exact ⟨_, rfl, OwnB.nil _ _, HM.out.trans hM1⟩
theorem field2 (w : World) (a b c : Nat) (v : Value) (hv : v.oneCell' = true) : (Instr.field 114 (.agg #[fnV a, fnV b, fnV c, v]) 2).run Tryz.prog w = .ok (.func (.func c) #[] #[]) w := by
 cases v <;> first | (exact absurd hv (by decide)) | kernel_rfl
theorem tag_own (w : World) (B : Nat) {z : Int} {n : Nat} (hz : (n : Int) = z) (hn : n ≤ 255) (hB : B ≤ w.heap.size) : OwnB (w.alloc (.cells #[.int .u8 z] 5)) B (.slice (some ⟨w.heap.size, 0, none⟩) 1 1) [UInt8.ofNat n] := by
 refine own_lit w [UInt8.ofNat n] _ 1 B ?_ rfl (by decide) hB
 have e : (UInt8.ofNat n).toNat = n := UInt8.toNat_ofNat_of_lt' (by show _ < 256; omega)
 simp [bv, e, hz]
set_option maxHeartbeats 16000000 in
set_option maxRecDepth 10000 in
theorem fput_plain {w : World} {f : Fr} {vd vr : Value} (hv : FrV w f vd vr) (hrl : (f.rs.length : Int) ≤ 100000) (hok : okKey f.k) (hro : RngOk f) (hr : rightF f = true) {n : Nat} {body : List UInt8} (h8 : f.k ≠ 8) (h18 : f.k ≠ 18) (h22 : f.k ≠ 22) (h28 : f.k ≠ 28) (hz0 : (n : Int) = f.k) (hn : n = tagN f) (hn255 : n ≤ 255) (hbody : bodyN f.k.toNat f = body) (hbl : body.length ≤ 100000)
  {fn1 fn2 fn3 : Nat} {v4 : Value} (hkf : kindsF f.k = some (.agg #[fnV fn1, fnV fn2, fnV fn3, v4])) (hp : ∀ X, Mod (fun _ => False) w X → Puts fn3 X f vd vr body) (en3 : Enter fn3) (o4 : v4.oneCell' = true) :
  Calls Tryz.prog 35 #[frV f vd vr] w fun e w' => ∃ v, e = .returned v ∧ OwnB w' w.heap.size v (fputL f) ∧ Mod (fun _ => False) w w' := by
 have hM := (Mod.refl (fun _ => False) w).alloc (.cells (frC f vd vr) 52)
 have HR := Lib.hid (right_any (hv.kept hM) hrl hok hro)
 rw [hr] at HR
 rw [show fputL f = UInt8.ofNat n :: body by unfold fputL; rw [if_pos hr, ← hn, hbody]]
 have HW := Lib.hid (loadWhole w f vd vr hv.t)
 have HF0 := Lib.hid (FrB.new w f vd vr hv.t)
 have HM := Lib.hid hM
 have HKF := Lib.hid hkf
 have HOK := Lib.hid hok
 have HP := Lib.hid hp
 have O4 := Lib.hid o4
 have H16 := Lib.hid hv.t
 have HZ := Lib.hid hn255
 have HLEN : Hid ((([UInt8.ofNat n].length + body.length : Nat) : Int) ≤ 140737488355328) := by show _ ≤ _; simp; omega
 have e0 : (frC f vd vr)[0]? = some (.int .i64 f.k) := rfl
 have e5 : (frC f vd vr)[5]? = some (.bool f.fl) := rfl
 obtain ⟨z, hz⟩ : ∃ z : Int, (n : Int) = z := ⟨_, rfl⟩
 have HZN := Lib.hid hz
 have hzw : IntKind.u8.wrap z = z := IntWalk.u8_in _ (by omega)
 obtain rfl : f.k = z := by omega
 have t8 : (f.k != 8) = true := by simpa using h8
 have t18 : (f.k == 18) = false := by simpa using h18
 have t22 : (f.k == 22) = false := by simpa using h22
 have t28 : (f.k == 28) = false := by simpa using h28
 clear h8 h18 h22 h28 hz0
 unfold Enter at en3
 clear hv hrl hok hro hr hM hkf hp o4 hn hbody hbl hz hn255
 unfold frV at *
 go_enter Tryz.func35, Tryz.ntmps35
 go_wp2_with (first
  | ((with_reducible refine wpList_load_v 52 (.tmp 1) ?_ ?_ (.pointer (some ⟨w.heap.size, 0, none⟩)) (.agg (frC f vd vr)) ?_ (HW.out _ rfl) ?_); (iterate 3 exact rfl))
  | fail)
 refine (HR.out).mono ?_
 rintro e w1 ⟨rfl, hM1⟩
 have HM1 := Lib.hid (HM.out.trans hM1)
 have HF1 := Lib.hid (HF0.out.kept hM1)
 have c0 := HF1.out.cells.1
 have c5 := HF1.out.cells.2.2.2.2.2.1
 clear hM1 e0 e5
 go_upto_region 7 with (first
  | (go_at_call 63; refine (bit_any _ _ _).mono ?_; rintro e w' ⟨rfl, rfl⟩)
  | fail)
 go_cut [2] (fun s2 wx => ∃ ap cp, s2 = .slice ap ([UInt8.ofNat n].length + body.length) cp ∧ Hid (OwnB wx w.heap.size (.slice ap ([UInt8.ofNat n].length + body.length) cp) (UInt8.ofNat n :: body) ∧ Mod (fun _ => False) w wx))
 case first =>
  refine wp_region_held_drew (S := fun X => FrB X w.heap.size f vd vr ∧ Mod (fun _ => False) w X) (by kernel_rfl) ⟨HF1.out.kept (Mod.refl _ _).drew, HM1.out.drew⟩ (fun hS => ?_)
  refine tk 0 (.int .i64 (f.k)) (some 31) rfl rfl (by kernel_rfl) (fun _ _ _ => id) (Or.inl ⟨by rfl, fun X hX => ?_⟩) hS ?_
  ·go_simp
  (try go_frame); refine tk 1 (.int .u8 (f.k)) (some 32) rfl rfl (by kernel_rfl) (fun _ _ _ => id) (Or.inl ⟨by rfl, fun X hX => ?_⟩) hS ?_
  ·go_simp
  (try go_frame); refine tk 4 (.pointer (some ⟨w.heap.size, 0, none⟩)) (some 35) rfl rfl (by kernel_rfl) (fun _ _ _ => id) (Or.inl ⟨by rfl, fun X hX => ?_⟩) hS ?_
  ·go_simp
  (try go_frame); refine tk 5 (.int .i64 f.k) (some 36) rfl rfl (by kernel_rfl) (fun _ _ _ => id) (Or.inl ⟨by rfl, fun X hX => ?_⟩) hS ?_
  ·have := hX.1.cells.1; go_simp
  (try go_frame); refine tk 8 (frV f vd vr) (some 39) rfl rfl (by kernel_rfl) (fun _ _ _ => id) (Or.inl ⟨by rfl, fun X hX => ?_⟩) hS ?_
  ·exact exec_load' rfl (p := .pointer (some ⟨w.heap.size, 0, none⟩)) (by rfl) (blk_loadAt hX.1)
  (try go_frame)
  generalize w1.drew = W0 at *
  refine wpAnyH_ready (rs := [2, 3]) (by kernel_rfl) (by simp) ?_
  refine AllReadyH.cons rfl (fun K hK => ?_) (AllReadyH.cons rfl (fun K hK => ?_) AllReadyH.nil)
  ·skip
   go_simp
   have hk2 := (Mod.refl (fun _ => False) W0).alloc (.cells #[.int .u8 f.k] 5)
   have hO := tag_own W0 w.heap.size HZN.out HZ.out hS.2.size
   refine hK.out _ _ ⟨hS.1.kept hk2, hS.2.trans hk2⟩ (fun hS => ?_)
   clear hK K
   generalize hg2 : W0.alloc (.cells #[.int .u8 f.k] 5) = W2 at *
   refine wpAnyH_ready (rs := [3]) (by kernel_rfl) (by simp) ?_
   refine arH rfl fun K hK => ?_
   go_simp
   refine (kinds_any _).mono ?_
   rintro e W3 ⟨mb, rfl, hV, hk3⟩
   refine hK.out _ _ ⟨hS.1.kept hk3, hS.2.trans hk3⟩ (fun hS => ?_)
   clear hK K
   refine wpAnyH_ready (rs := [6]) (by kernel_rfl) (by simp) ?_
   refine arH rfl fun K hK => ?_
   have hlk := hV.look (t := 115) (e := 114) HOK.out Tryz.underlying115 (zero_kind W3)
   rw [HKF.out] at hlk
   simp only [Option.getD_some] at hlk
   go_simp
   refine hK.out _ _ hS (fun hS => ?_)
   clear hK K
   refine tk 7 (.func (.func fn3) #[] #[]) (some 38) rfl rfl (by kernel_rfl) (fun _ _ _ => id) (Or.inl ⟨by rfl, fun X hX => ?_⟩) hS ?_
   ·have := field2 X fn1 fn2 fn3 v4 O4.out; go_simp
   (try go_frame); refine wpAnyH_ready (rs := [9]) (by kernel_rfl) (by simp) ?_
   refine arH rfl fun K hK => ?_
   go_simp
   refine (HP.out W3 hS.2).mono ?_
   rintro e W9 ⟨vb, rfl, hb9, hk9⟩
   obtain ⟨a9, c9, rfl, _⟩ := byts_val hb9
   refine hK.out _ _ ⟨hS.1.kept hk9, hS.2.trans hk9⟩ (fun hS => ?_)
   clear hK K
   refine wpAnyH_ready (rs := [10]) (by kernel_rfl) (by simp) ?_
   refine arH rfl fun K hK => ?_
   refine step_append_b rfl (.tmp 33) (.tmp 40) rfl (.slice (some ⟨W0.heap.size, 0, none⟩) 1 1) [UInt8.ofNat n] w.heap.size _ (by rfl) ((hO.keptF hk3).keptF hk9) (.slice a9 body.length c9) body (by rfl) hb9 (UInt8.ofNat n :: body) rfl rfl HLEN.out hS.2.size ?_
   intro ap cp X3 hA
   (try go_frame)
   have hM3 : Mod (fun _ => False) w X3 := hA.modF hS.2 (Nat.le_refl _)
   have hB3 := (hA.mod (w0 := W9) (S := fun k => (Value.slice (some ⟨W0.heap.size, 0, none⟩) 1 1).ownBlock = some k) (Mod.refl _ _) (fun g hg _ => hg)).blk hS.1.blk (OwnB.apart ((hO.keptF hk3).keptF hk9) hS.1.blk (by decide))
   refine hK.out _ _ ⟨⟨hB3, H16.out⟩, hM3⟩ (fun hS => ?_)
   clear hK K
   refine wpAnyH_ready (rs := [11]) (by kernel_rfl) (by simp) ?_
   refine arH rfl fun K hK => ?_
   go_simp
   refine hK.out _ _ hS (fun hS => ?_)
   clear hK K
   refine wpAnyH_done (by kernel_rfl) ?_ _
   go_wp2_with fail
   go_meet
   exact ⟨ap, cp, rfl, ⟨hA.own, hM3⟩⟩
  ·skip
   go_simp
   refine (kinds_any _).mono ?_
   rintro e W3 ⟨mb, rfl, hV, hk3⟩
   refine hK.out _ _ ⟨hS.1.kept hk3, hS.2.trans hk3⟩ (fun hS => ?_)
   clear hK K
   refine wpAnyH_ready (rs := [2, 6]) (by kernel_rfl) (by simp) ?_
   refine AllReadyH.cons rfl (fun K hK => ?_) (AllReadyH.cons rfl (fun K hK => ?_) AllReadyH.nil)
   ·skip
    go_simp
    have hk2 := (Mod.refl (fun _ => False) W3).alloc (.cells #[.int .u8 f.k] 5)
    have hO := tag_own W3 w.heap.size HZN.out HZ.out hS.2.size
    refine hK.out _ _ ⟨hS.1.kept hk2, hS.2.trans hk2⟩ (fun hS => ?_)
    clear hK K
    generalize hg2 : W3.alloc (.cells #[.int .u8 f.k] 5) = W2 at *
    refine wpAnyH_ready (rs := [6]) (by kernel_rfl) (by simp) ?_
    refine arH rfl fun K hK => ?_
    have hlk := (hV.kept hk2 (fun h => h)).look (t := 115) (e := 114) HOK.out Tryz.underlying115 (zero_kind W2)
    rw [HKF.out] at hlk
    simp only [Option.getD_some] at hlk
    go_simp
    refine hK.out _ _ hS (fun hS => ?_)
    clear hK K
    refine tk 7 (.func (.func fn3) #[] #[]) (some 38) rfl rfl (by kernel_rfl) (fun _ _ _ => id) (Or.inl ⟨by rfl, fun X hX => ?_⟩) hS ?_
    ·have := field2 X fn1 fn2 fn3 v4 O4.out; go_simp
    (try go_frame); refine wpAnyH_ready (rs := [9]) (by kernel_rfl) (by simp) ?_
    refine arH rfl fun K hK => ?_
    go_simp
    refine (HP.out W2 hS.2).mono ?_
    rintro e W9 ⟨vb, rfl, hb9, hk9⟩
    obtain ⟨a9, c9, rfl, _⟩ := byts_val hb9
    refine hK.out _ _ ⟨hS.1.kept hk9, hS.2.trans hk9⟩ (fun hS => ?_)
    clear hK K
    refine wpAnyH_ready (rs := [10]) (by kernel_rfl) (by simp) ?_
    refine arH rfl fun K hK => ?_
    refine step_append_b rfl (.tmp 33) (.tmp 40) rfl (.slice (some ⟨W3.heap.size, 0, none⟩) 1 1) [UInt8.ofNat n] w.heap.size _ (by rfl) (hO.keptF hk9) (.slice a9 body.length c9) body (by rfl) hb9 (UInt8.ofNat n :: body) rfl rfl HLEN.out hS.2.size ?_
    intro ap cp X3 hA
    (try go_frame)
    have hM3 : Mod (fun _ => False) w X3 := hA.modF hS.2 (Nat.le_refl _)
    have hB3 := (hA.mod (w0 := W9) (S := fun k => (Value.slice (some ⟨W3.heap.size, 0, none⟩) 1 1).ownBlock = some k) (Mod.refl _ _) (fun g hg _ => hg)).blk hS.1.blk (OwnB.apart (hO.keptF hk9) hS.1.blk (by decide))
    refine hK.out _ _ ⟨⟨hB3, H16.out⟩, hM3⟩ (fun hS => ?_)
    clear hK K
    refine wpAnyH_ready (rs := [11]) (by kernel_rfl) (by simp) ?_
    refine arH rfl fun K hK => ?_
    go_simp
    refine hK.out _ _ hS (fun hS => ?_)
    clear hK K
    refine wpAnyH_done (by kernel_rfl) ?_ _
    go_wp2_with fail
    go_meet
    exact ⟨ap, cp, rfl, ⟨hA.own, hM3⟩⟩
   ·skip
    have hlk := hV.look (t := 115) (e := 114) HOK.out Tryz.underlying115 (zero_kind W3)
    rw [HKF.out] at hlk
    simp only [Option.getD_some] at hlk
    go_simp
    refine hK.out _ _ hS (fun hS => ?_)
    clear hK K
    refine tk 7 (.func (.func fn3) #[] #[]) (some 38) rfl rfl (by kernel_rfl) (fun _ _ _ => id) (Or.inl ⟨by rfl, fun X hX => ?_⟩) hS ?_
    ·have := field2 X fn1 fn2 fn3 v4 O4.out; go_simp
    (try go_frame); refine wpAnyH_ready (rs := [2, 9]) (by kernel_rfl) (by simp) ?_
    refine AllReadyH.cons rfl (fun K hK => ?_) (AllReadyH.cons rfl (fun K hK => ?_) AllReadyH.nil)
    ·skip
     go_simp
     have hk2 := (Mod.refl (fun _ => False) W3).alloc (.cells #[.int .u8 f.k] 5)
     have hO := tag_own W3 w.heap.size HZN.out HZ.out hS.2.size
     refine hK.out _ _ ⟨hS.1.kept hk2, hS.2.trans hk2⟩ (fun hS => ?_)
     clear hK K
     generalize hg2 : W3.alloc (.cells #[.int .u8 f.k] 5) = W2 at *
     refine wpAnyH_ready (rs := [9]) (by kernel_rfl) (by simp) ?_
     refine arH rfl fun K hK => ?_
     go_simp
     refine (HP.out W2 hS.2).mono ?_
     rintro e W9 ⟨vb, rfl, hb9, hk9⟩
     obtain ⟨a9, c9, rfl, _⟩ := byts_val hb9
     refine hK.out _ _ ⟨hS.1.kept hk9, hS.2.trans hk9⟩ (fun hS => ?_)
     clear hK K
     refine wpAnyH_ready (rs := [10]) (by kernel_rfl) (by simp) ?_
     refine arH rfl fun K hK => ?_
     refine step_append_b rfl (.tmp 33) (.tmp 40) rfl (.slice (some ⟨W3.heap.size, 0, none⟩) 1 1) [UInt8.ofNat n] w.heap.size _ (by rfl) (hO.keptF hk9) (.slice a9 body.length c9) body (by rfl) hb9 (UInt8.ofNat n :: body) rfl rfl HLEN.out hS.2.size ?_
     intro ap cp X3 hA
     (try go_frame)
     have hM3 : Mod (fun _ => False) w X3 := hA.modF hS.2 (Nat.le_refl _)
     have hB3 := (hA.mod (w0 := W9) (S := fun k => (Value.slice (some ⟨W3.heap.size, 0, none⟩) 1 1).ownBlock = some k) (Mod.refl _ _) (fun g hg _ => hg)).blk hS.1.blk (OwnB.apart (hO.keptF hk9) hS.1.blk (by decide))
     refine hK.out _ _ ⟨⟨hB3, H16.out⟩, hM3⟩ (fun hS => ?_)
     clear hK K
     refine wpAnyH_ready (rs := [11]) (by kernel_rfl) (by simp) ?_
     refine arH rfl fun K hK => ?_
     go_simp
     refine hK.out _ _ hS (fun hS => ?_)
     clear hK K
     refine wpAnyH_done (by kernel_rfl) ?_ _
     go_wp2_with fail
     go_meet
     exact ⟨ap, cp, rfl, ⟨hA.own, hM3⟩⟩
    ·skip
     go_simp
     refine (HP.out W3 hS.2).mono ?_
     rintro e W9 ⟨vb, rfl, hb9, hk9⟩
     obtain ⟨a9, c9, rfl, _⟩ := byts_val hb9
     refine hK.out _ _ ⟨hS.1.kept hk9, hS.2.trans hk9⟩ (fun hS => ?_)
     clear hK K
     refine wpAnyH_ready (rs := [2]) (by kernel_rfl) (by simp) ?_
     refine arH rfl fun K hK => ?_
     go_simp
     have hk2 := (Mod.refl (fun _ => False) W9).alloc (.cells #[.int .u8 f.k] 5)
     have hO := tag_own W9 w.heap.size HZN.out HZ.out hS.2.size
     refine hK.out _ _ ⟨hS.1.kept hk2, hS.2.trans hk2⟩ (fun hS => ?_)
     clear hK K
     generalize hg2 : W9.alloc (.cells #[.int .u8 f.k] 5) = W2 at *
     refine wpAnyH_ready (rs := [10]) (by kernel_rfl) (by simp) ?_
     refine arH rfl fun K hK => ?_
     refine step_append_b rfl (.tmp 33) (.tmp 40) rfl (.slice (some ⟨W9.heap.size, 0, none⟩) 1 1) [UInt8.ofNat n] w.heap.size _ (by rfl) hO (.slice a9 body.length c9) body (by rfl) (byts_kept hb9 hk2) (UInt8.ofNat n :: body) rfl rfl HLEN.out hS.2.size ?_
     intro ap cp X3 hA
     (try go_frame)
     have hM3 : Mod (fun _ => False) w X3 := hA.modF hS.2 (Nat.le_refl _)
     have hB3 := (hA.mod (w0 := W2) (S := fun k => (Value.slice (some ⟨W9.heap.size, 0, none⟩) 1 1).ownBlock = some k) (Mod.refl _ _) (fun g hg _ => hg)).blk hS.1.blk (OwnB.apart hO hS.1.blk (by decide))
     refine hK.out _ _ ⟨⟨hB3, H16.out⟩, hM3⟩ (fun hS => ?_)
     clear hK K
     refine wpAnyH_ready (rs := [11]) (by kernel_rfl) (by simp) ?_
     refine arH rfl fun K hK => ?_
     go_simp
     refine hK.out _ _ hS (fun hS => ?_)
     clear hK K
     refine wpAnyH_done (by kernel_rfl) ?_ _
     go_wp2_with fail
     go_meet
     exact ⟨ap, cp, rfl, ⟨hA.own, hM3⟩⟩
 case rest =>
  obtain ⟨ap, cp, rfl, HC⟩ := hcut
  go_wp2_with fail
  go_ret
  exact ⟨_, rfl, HC.out.1, HC.out.2⟩
end Go.Proofs.YtolgeghdkoodnaaGreatDoor
