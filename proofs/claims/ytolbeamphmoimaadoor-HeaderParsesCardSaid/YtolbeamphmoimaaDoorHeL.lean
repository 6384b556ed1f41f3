/- The document's Parse of wrong headers. -/
import Derived.Test.YtolbeamphmoimaaDoorHeK
namespace Go.Proofs.YtolbeamphmoimaaDoor
open Go.RowKit

set_option maxRecDepth 10000 in
theorem rparse_nil {w : World} {v : Value} (h : Byts w v []) : Calls Tryd.prog 20 #[v] w (RefOut w (Hd.zero, 0, 2)) := by
  obtain ⟨a0, cp0, rfl, _⟩ := byts_val h
  simp only [List.length_nil]
  clear h
  have HB2 : Blk (((w.alloc (.cells #[.bool false, .bool false, .int .i64 0, .int .u32 0, .slice none 0 0, .slice none 0 0, .slice none 0 0, .slice none 0 0, .int .i64 0] 25)).alloc (.cells #[.bool false, .bool false, .int .i64 0, .int .u32 0, .slice none 0 0, .slice none 0 0, .slice none 0 0, .slice none 0 0, .int .i64 0] 25)).alloc (.cells #[.bool false, .bool false, .int .i64 0, .int .u32 0, .slice none 0 0, .slice none 0 0, .slice none 0 0, .slice none 0 0, .int .i64 0] 25)) w.heap.size #[.bool false, .bool false, .int .i64 0, .int .u32 0, .slice none 0 0, .slice none 0 0, .slice none 0 0, .slice none 0 0, .int .i64 0] 25 := ((Blk.new w _ _).alloc _).alloc _
  have HB3 := Lib.hid HB2
  clear HB2
  go_enter Tryd.func20, Tryd.ntmps20
  go_wp2_with fail
  obtain ⟨q0, q1, q2, q3, q4, q5, q6, q7, q8, _⟩ := hd_cells HB3.out
  refine bodyPost_ret (v := .tuple #[_, _, _]) ?_ rfl ⟨.slice none 0 0, .slice none 0 0, .slice none 0 0, .slice none 0 0, rfl, zero_hdv _, ((((Mod.refl _ w).alloc _).alloc _).alloc _)⟩
  simp [results, Tryd.results20, go_sem, q0, q1, q2, q3, q4, q5, q6, q7, q8, Hd.zero, hdV]

set_option maxHeartbeats 4000000 in
set_option maxRecDepth 10000 in
theorem rparse_form {w : World} {v : Value} {l : List UInt8} {c : UInt8} {s1 : RS} (h : Byts w v l) (hl : (l.length : Int) ≤ 5000) (hne : l ≠ []) (h0 : RS.byte ⟨l, 0⟩ = (c, s1)) (h64 : c.toNat / 64 % 2 = 0) :
    Calls Tryd.prog 20 #[v] w (RefOut w (Hd.zero, 0, 3)) := by
  have HL := Lib.hid hl
  obtain ⟨a0, cp0, rfl, _⟩ := byts_val h
  have HPN := Lib.hid (rp_new (nb := w.heap.size + 1 + 1) (rb := w.heap.size + 1 + 1 + 1) h hl hne rfl rfl)
  have H0 := Lib.hid h0
  have hpos := List.length_pos_iff.2 hne
  have hl0 : ¬ l.length = 0 := by omega
  have hc := c.toNat_lt
  have hci : (c.toNat : Int) < 256 := by omega
  have hw4 : IntKind.u64.wrap ((c.toNat : Int) % 4 + 1) = (c.toNat : Int) % 4 + 1 := IntWalk.u64_in _ (by omega)
  have t64 : (c.toNat : Int) / 64 % 2 = 0 := by omega
  clear h hl hne h0 hc h64
  go_enter Tryd.func20, Tryd.ntmps20
  go_wp2_with fail
  obtain ⟨w1, hw1⟩ : ∃ w1, w1 = (((w.alloc (.cells #[.bool false, .bool false, .int .i64 0, .int .u32 0, .slice none 0 0, .slice none 0 0, .slice none 0 0, .slice none 0 0, .int .i64 0] 25)).alloc (.cells #[.bool false, .bool false, .int .i64 0, .int .u32 0, .slice none 0 0, .slice none 0 0, .slice none 0 0, .slice none 0 0, .int .i64 0] 25)).alloc (.cells #[.bool false, .bool false, .int .i64 0, .int .u32 0, .slice none 0 0, .slice none 0 0, .slice none 0 0, .slice none 0 0, .int .i64 0] 25)).alloc (.cells #[.slice a0 l.length cp0, .int .i64 0, .int .i64 0] 58) := ⟨_, rfl⟩
  rw [← hw1] at HPN ⊢
  obtain ⟨rb, hrb⟩ : ∃ rb, rb = w.heap.size + 1 + 1 + 1 := ⟨_, rfl⟩
  rw [← hrb] at HPN ⊢
  obtain ⟨nb, hnb⟩ : ∃ nb, nb = w.heap.size + 1 + 1 := ⟨_, rfl⟩
  rw [← hnb] at HPN ⊢
  have hnb1 : ¬ nb = w.heap.size + 1 := by omega
  have hnb2 : ¬ w.heap.size + 1 = nb := by omega
  have hnb3 : ¬ rb = w.heap.size + 1 := by omega
  have hnb4 : ¬ w.heap.size + 1 = rb := by omega
  have hnb5 : ¬ rb = w.heap.size := by omega
  have hnb6 : ¬ w.heap.size = rb := by omega
  have hnb7 : ¬ nb = w.heap.size := by omega
  have hnb8 : ¬ w.heap.size = nb := by omega
  clear hw1 hrb hnb hpos hl0
  (with_reducible refine (refbyte_any HPN.out.r).mono ?_)
  rintro e w2 ⟨rfl, hr2, hM2⟩
  rw [H0.out] at hr2 ⊢
  simp only at hr2 ⊢
  have hP2 := Lib.hid (HPN.out.step hr2 hM2)
  clear hr2 hM2
  obtain ⟨⟨r0, r1, r2, r3, r4, r5, r6, r7, r8, r9⟩, ⟨f0, f1, f2, f3, f4, f5, f6, f7, f8⟩⟩ := hP2.out.rcells
  obtain ⟨n0, n1, n2, n3, n4, n5, n6, n7, n8, n9⟩ := hP2.out.ncells
  go_wp2_with fail
  rw [set9_eq]
  have HB2 := (blk_set9 (.bool false) (.bool false) (.int .i64 0) (.int .u32 0) (.slice none 0 0) (.slice none 0 0) (.slice none 0 0) (.slice none 0 0) (.int .i64 0) hP2.out.res)
  have hM2 := (mod_set9 (b := w.heap.size) (.bool false) (.bool false) (.int .i64 0) (.int .u32 0) (.slice none 0 0) (.slice none 0 0) (.slice none 0 0) (.slice none 0 0) (.int .i64 0) hP2.out.mod (fun _ => Nat.le_refl _))
  obtain ⟨q0, q1, q2, q3, q4, q5, q6, q7, q8, _⟩ := hd_cells HB2
  refine bodyPost_ret (v := .tuple #[_, _, _]) ?_ rfl (refOut_of rfl ⟨.slice none 0 0, .slice none 0 0, .slice none 0 0, .slice none 0 0, rfl, zero_hdv _, mod_fin hM2⟩)
  simp [results, Tryd.results20, go_sem, q0, q1, q2, q3, q4, q5, q6, q7, q8, Hd.zero, hdV]

set_option maxHeartbeats 4000000 in
set_option maxRecDepth 10000 in
theorem rparse_still {w : World} {v : Value} {l : List UInt8} {c : UInt8} {s1 : RS} (h : Byts w v l) (hl : (l.length : Int) ≤ 5000) (hne : l ≠ []) (h0 : RS.byte ⟨l, 0⟩ = (c, s1)) (hp : ¬ c.toNat / 64 % 2 = 0) (h128 : ¬ 128 ≤ c.toNat) (h8 : ¬ c.toNat / 8 % 8 = 0) :
    Calls Tryd.prog 20 #[v] w (RefOut w (Hd.zero, 0, 3)) := by
  have HL := Lib.hid hl
  obtain ⟨a0, cp0, rfl, _⟩ := byts_val h
  have HPN := Lib.hid (rp_new (nb := w.heap.size + 1 + 1) (rb := w.heap.size + 1 + 1 + 1) h hl hne rfl rfl)
  have H0 := Lib.hid h0
  have hpos := List.length_pos_iff.2 hne
  have hl0 : ¬ l.length = 0 := by omega
  have hc := c.toNat_lt
  have hci : (c.toNat : Int) < 256 := by omega
  have hw4 : IntKind.u64.wrap ((c.toNat : Int) % 4 + 1) = (c.toNat : Int) % 4 + 1 := IntWalk.u64_in _ (by omega)
  have t64 : (c.toNat : Int) / 64 % 2 = 1 := by omega
  have t128 : decide ((128 : Int) ≤ (c.toNat : Int)) = false := by simp; omega
  have t128b : (!decide ((128 : Int) ≤ (c.toNat : Int))) = true := by rw [t128]; rfl
  have t8 : ¬ (c.toNat : Int) / 8 % 8 = 0 := by omega
  clear h hl hne h0 hc hp h128 h8
  go_enter Tryd.func20, Tryd.ntmps20
  go_wp2_with fail
  obtain ⟨w1, hw1⟩ : ∃ w1, w1 = (((w.alloc (.cells #[.bool false, .bool false, .int .i64 0, .int .u32 0, .slice none 0 0, .slice none 0 0, .slice none 0 0, .slice none 0 0, .int .i64 0] 25)).alloc (.cells #[.bool false, .bool false, .int .i64 0, .int .u32 0, .slice none 0 0, .slice none 0 0, .slice none 0 0, .slice none 0 0, .int .i64 0] 25)).alloc (.cells #[.bool false, .bool false, .int .i64 0, .int .u32 0, .slice none 0 0, .slice none 0 0, .slice none 0 0, .slice none 0 0, .int .i64 0] 25)).alloc (.cells #[.slice a0 l.length cp0, .int .i64 0, .int .i64 0] 58) := ⟨_, rfl⟩
  rw [← hw1] at HPN ⊢
  obtain ⟨rb, hrb⟩ : ∃ rb, rb = w.heap.size + 1 + 1 + 1 := ⟨_, rfl⟩
  rw [← hrb] at HPN ⊢
  obtain ⟨nb, hnb⟩ : ∃ nb, nb = w.heap.size + 1 + 1 := ⟨_, rfl⟩
  rw [← hnb] at HPN ⊢
  have hnb1 : ¬ nb = w.heap.size + 1 := by omega
  have hnb2 : ¬ w.heap.size + 1 = nb := by omega
  have hnb3 : ¬ rb = w.heap.size + 1 := by omega
  have hnb4 : ¬ w.heap.size + 1 = rb := by omega
  have hnb5 : ¬ rb = w.heap.size := by omega
  have hnb6 : ¬ w.heap.size = rb := by omega
  have hnb7 : ¬ nb = w.heap.size := by omega
  have hnb8 : ¬ w.heap.size = nb := by omega
  clear hw1 hrb hnb hpos hl0
  (with_reducible refine (refbyte_any HPN.out.r).mono ?_)
  rintro e w2 ⟨rfl, hr2, hM2⟩
  rw [H0.out] at hr2 ⊢
  simp only at hr2 ⊢
  have hP2 := Lib.hid (HPN.out.step hr2 hM2)
  clear hr2 hM2
  obtain ⟨c0, c1, c2, c3, c4, c5, c6, c7, c8, c9⟩ := hP2.out.cells
  obtain ⟨g0, g1, g2, g3, g4, g5, g6, g7, g8⟩ := hP2.out.frozen
  obtain ⟨⟨r0, r1, r2, r3, r4, r5, r6, r7, r8, r9⟩, ⟨f0, f1, f2, f3, f4, f5, f6, f7, f8⟩⟩ := hP2.out.rcells
  obtain ⟨n0, n1, n2, n3, n4, n5, n6, n7, n8, n9⟩ := hP2.out.ncells
  have hP3 := Lib.hid (hP2.out.put0 (.bool false))
  go_wp2_with fail
  rw [set9_eq]
  have HB2 := (blk_set9 (.bool false) (.bool false) (.int .i64 0) (.int .u32 0) (.slice none 0 0) (.slice none 0 0) (.slice none 0 0) (.slice none 0 0) (.int .i64 0) hP3.out.res)
  have hM2 := (mod_set9 (b := w.heap.size) (.bool false) (.bool false) (.int .i64 0) (.int .u32 0) (.slice none 0 0) (.slice none 0 0) (.slice none 0 0) (.slice none 0 0) (.int .i64 0) hP3.out.mod (fun _ => Nat.le_refl _))
  obtain ⟨q0, q1, q2, q3, q4, q5, q6, q7, q8, _⟩ := hd_cells HB2
  refine bodyPost_ret (v := .tuple #[_, _, _]) ?_ rfl (refOut_of rfl ⟨.slice none 0 0, .slice none 0 0, .slice none 0 0, .slice none 0 0, rfl, zero_hdv _, mod_fin hM2⟩)
  simp [results, Tryd.results20, go_sem, q0, q1, q2, q3, q4, q5, q6, q7, q8, Hd.zero, hdV]

set_option maxHeartbeats 4000000 in
set_option maxRecDepth 10000 in
theorem rparse_kind1 {w : World} {v : Value} {l : List UInt8} {c : UInt8} {s1 : RS} (h : Byts w v l) (hl : (l.length : Int) ≤ 5000) (hne : l ≠ []) (h0 : RS.byte ⟨l, 0⟩ = (c, s1)) (hp : ¬ c.toNat / 64 % 2 = 0) (h128 : 128 ≤ c.toNat) (hq : c.toNat / 4 % 4 = 0) (hk : c.toNat / 16 % 4 = 1) :
    Calls Tryd.prog 20 #[v] w (RefOut w (Hd.zero, 0, 3)) := by
  have HL := Lib.hid hl
  obtain ⟨a0, cp0, rfl, _⟩ := byts_val h
  have HPN := Lib.hid (rp_new (nb := w.heap.size + 1 + 1) (rb := w.heap.size + 1 + 1 + 1) h hl hne rfl rfl)
  have H0 := Lib.hid h0
  have hpos := List.length_pos_iff.2 hne
  have hl0 : ¬ l.length = 0 := by omega
  have hc := c.toNat_lt
  have hci : (c.toNat : Int) < 256 := by omega
  have hw4 : IntKind.u64.wrap ((c.toNat : Int) % 4 + 1) = (c.toNat : Int) % 4 + 1 := IntWalk.u64_in _ (by omega)
  have t64 : (c.toNat : Int) / 64 % 2 = 1 := by omega
  have t128 : decide ((128 : Int) ≤ (c.toNat : Int)) = true := by simp; omega
  have t128b : (!decide ((128 : Int) ≤ (c.toNat : Int))) = false := by rw [t128]; rfl
  have t12 : (c.toNat : Int) / 4 % 4 = 0 := by omega
  have t16 : (c.toNat : Int) / 16 % 4 = 1 := by omega
  clear h hl hne h0 hc hp h128 hq hk
  go_enter Tryd.func20, Tryd.ntmps20
  go_wp2_with fail
  obtain ⟨w1, hw1⟩ : ∃ w1, w1 = (((w.alloc (.cells #[.bool false, .bool false, .int .i64 0, .int .u32 0, .slice none 0 0, .slice none 0 0, .slice none 0 0, .slice none 0 0, .int .i64 0] 25)).alloc (.cells #[.bool false, .bool false, .int .i64 0, .int .u32 0, .slice none 0 0, .slice none 0 0, .slice none 0 0, .slice none 0 0, .int .i64 0] 25)).alloc (.cells #[.bool false, .bool false, .int .i64 0, .int .u32 0, .slice none 0 0, .slice none 0 0, .slice none 0 0, .slice none 0 0, .int .i64 0] 25)).alloc (.cells #[.slice a0 l.length cp0, .int .i64 0, .int .i64 0] 58) := ⟨_, rfl⟩
  rw [← hw1] at HPN ⊢
  obtain ⟨rb, hrb⟩ : ∃ rb, rb = w.heap.size + 1 + 1 + 1 := ⟨_, rfl⟩
  rw [← hrb] at HPN ⊢
  obtain ⟨nb, hnb⟩ : ∃ nb, nb = w.heap.size + 1 + 1 := ⟨_, rfl⟩
  rw [← hnb] at HPN ⊢
  have hnb1 : ¬ nb = w.heap.size + 1 := by omega
  have hnb2 : ¬ w.heap.size + 1 = nb := by omega
  have hnb3 : ¬ rb = w.heap.size + 1 := by omega
  have hnb4 : ¬ w.heap.size + 1 = rb := by omega
  have hnb5 : ¬ rb = w.heap.size := by omega
  have hnb6 : ¬ w.heap.size = rb := by omega
  have hnb7 : ¬ nb = w.heap.size := by omega
  have hnb8 : ¬ w.heap.size = nb := by omega
  clear hw1 hrb hnb hpos hl0
  (with_reducible refine (refbyte_any HPN.out.r).mono ?_)
  rintro e w2 ⟨rfl, hr2, hM2⟩
  rw [H0.out] at hr2 ⊢
  simp only at hr2 ⊢
  have hP2 := Lib.hid (HPN.out.step hr2 hM2)
  clear hr2 hM2
  obtain ⟨c0, c1, c2, c3, c4, c5, c6, c7, c8, c9⟩ := hP2.out.cells
  obtain ⟨g0, g1, g2, g3, g4, g5, g6, g7, g8⟩ := hP2.out.frozen
  obtain ⟨⟨r0, r1, r2, r3, r4, r5, r6, r7, r8, r9⟩, ⟨f0, f1, f2, f3, f4, f5, f6, f7, f8⟩⟩ := hP2.out.rcells
  obtain ⟨n0, n1, n2, n3, n4, n5, n6, n7, n8, n9⟩ := hP2.out.ncells
  have hP3 := Lib.hid ((hP2.out.put0 (.bool true)).put2 (.int .i64 1))
  go_wp2_with fail
  rw [set9_eq]
  have HB2 := (blk_set9 (.bool false) (.bool false) (.int .i64 0) (.int .u32 0) (.slice none 0 0) (.slice none 0 0) (.slice none 0 0) (.slice none 0 0) (.int .i64 0) hP3.out.res)
  have hM2 := (mod_set9 (b := w.heap.size) (.bool false) (.bool false) (.int .i64 0) (.int .u32 0) (.slice none 0 0) (.slice none 0 0) (.slice none 0 0) (.slice none 0 0) (.int .i64 0) hP3.out.mod (fun _ => Nat.le_refl _))
  obtain ⟨q0, q1, q2, q3, q4, q5, q6, q7, q8, _⟩ := hd_cells HB2
  refine bodyPost_ret (v := .tuple #[_, _, _]) ?_ rfl (refOut_of rfl ⟨.slice none 0 0, .slice none 0 0, .slice none 0 0, .slice none 0 0, rfl, zero_hdv _, mod_fin hM2⟩)
  simp [results, Tryd.results20, go_sem, q0, q1, q2, q3, q4, q5, q6, q7, q8, Hd.zero, hdV]

set_option maxHeartbeats 4000000 in
set_option maxRecDepth 10000 in
theorem rparse_kind3 {w : World} {v : Value} {l : List UInt8} {c : UInt8} {s1 : RS} (h : Byts w v l) (hl : (l.length : Int) ≤ 5000) (hne : l ≠ []) (h0 : RS.byte ⟨l, 0⟩ = (c, s1)) (hp : ¬ c.toNat / 64 % 2 = 0) (h128 : 128 ≤ c.toNat) (hq : c.toNat / 4 % 4 = 0) (hk : c.toNat / 16 % 4 = 3) :
    Calls Tryd.prog 20 #[v] w (RefOut w (Hd.zero, 0, 3)) := by
  have HL := Lib.hid hl
  obtain ⟨a0, cp0, rfl, _⟩ := byts_val h
  have HPN := Lib.hid (rp_new (nb := w.heap.size + 1 + 1) (rb := w.heap.size + 1 + 1 + 1) h hl hne rfl rfl)
  have H0 := Lib.hid h0
  have hpos := List.length_pos_iff.2 hne
  have hl0 : ¬ l.length = 0 := by omega
  have hc := c.toNat_lt
  have hci : (c.toNat : Int) < 256 := by omega
  have hw4 : IntKind.u64.wrap ((c.toNat : Int) % 4 + 1) = (c.toNat : Int) % 4 + 1 := IntWalk.u64_in _ (by omega)
  have t64 : (c.toNat : Int) / 64 % 2 = 1 := by omega
  have t128 : decide ((128 : Int) ≤ (c.toNat : Int)) = true := by simp; omega
  have t128b : (!decide ((128 : Int) ≤ (c.toNat : Int))) = false := by rw [t128]; rfl
  have t12 : (c.toNat : Int) / 4 % 4 = 0 := by omega
  have t16 : (c.toNat : Int) / 16 % 4 = 3 := by omega
  clear h hl hne h0 hc hp h128 hq hk
  go_enter Tryd.func20, Tryd.ntmps20
  go_wp2_with fail
  obtain ⟨w1, hw1⟩ : ∃ w1, w1 = (((w.alloc (.cells #[.bool false, .bool false, .int .i64 0, .int .u32 0, .slice none 0 0, .slice none 0 0, .slice none 0 0, .slice none 0 0, .int .i64 0] 25)).alloc (.cells #[.bool false, .bool false, .int .i64 0, .int .u32 0, .slice none 0 0, .slice none 0 0, .slice none 0 0, .slice none 0 0, .int .i64 0] 25)).alloc (.cells #[.bool false, .bool false, .int .i64 0, .int .u32 0, .slice none 0 0, .slice none 0 0, .slice none 0 0, .slice none 0 0, .int .i64 0] 25)).alloc (.cells #[.slice a0 l.length cp0, .int .i64 0, .int .i64 0] 58) := ⟨_, rfl⟩
  rw [← hw1] at HPN ⊢
  obtain ⟨rb, hrb⟩ : ∃ rb, rb = w.heap.size + 1 + 1 + 1 := ⟨_, rfl⟩
  rw [← hrb] at HPN ⊢
  obtain ⟨nb, hnb⟩ : ∃ nb, nb = w.heap.size + 1 + 1 := ⟨_, rfl⟩
  rw [← hnb] at HPN ⊢
  have hnb1 : ¬ nb = w.heap.size + 1 := by omega
  have hnb2 : ¬ w.heap.size + 1 = nb := by omega
  have hnb3 : ¬ rb = w.heap.size + 1 := by omega
  have hnb4 : ¬ w.heap.size + 1 = rb := by omega
  have hnb5 : ¬ rb = w.heap.size := by omega
  have hnb6 : ¬ w.heap.size = rb := by omega
  have hnb7 : ¬ nb = w.heap.size := by omega
  have hnb8 : ¬ w.heap.size = nb := by omega
  clear hw1 hrb hnb hpos hl0
  (with_reducible refine (refbyte_any HPN.out.r).mono ?_)
  rintro e w2 ⟨rfl, hr2, hM2⟩
  rw [H0.out] at hr2 ⊢
  simp only at hr2 ⊢
  have hP2 := Lib.hid (HPN.out.step hr2 hM2)
  clear hr2 hM2
  obtain ⟨c0, c1, c2, c3, c4, c5, c6, c7, c8, c9⟩ := hP2.out.cells
  obtain ⟨g0, g1, g2, g3, g4, g5, g6, g7, g8⟩ := hP2.out.frozen
  obtain ⟨⟨r0, r1, r2, r3, r4, r5, r6, r7, r8, r9⟩, ⟨f0, f1, f2, f3, f4, f5, f6, f7, f8⟩⟩ := hP2.out.rcells
  obtain ⟨n0, n1, n2, n3, n4, n5, n6, n7, n8, n9⟩ := hP2.out.ncells
  have hP3 := Lib.hid ((hP2.out.put0 (.bool true)).put2 (.int .i64 3))
  go_wp2_with fail
  rw [set9_eq]
  have HB2 := (blk_set9 (.bool false) (.bool false) (.int .i64 0) (.int .u32 0) (.slice none 0 0) (.slice none 0 0) (.slice none 0 0) (.slice none 0 0) (.int .i64 0) hP3.out.res)
  have hM2 := (mod_set9 (b := w.heap.size) (.bool false) (.bool false) (.int .i64 0) (.int .u32 0) (.slice none 0 0) (.slice none 0 0) (.slice none 0 0) (.slice none 0 0) (.int .i64 0) hP3.out.mod (fun _ => Nat.le_refl _))
  obtain ⟨q0, q1, q2, q3, q4, q5, q6, q7, q8, _⟩ := hd_cells HB2
  refine bodyPost_ret (v := .tuple #[_, _, _]) ?_ rfl (refOut_of rfl ⟨.slice none 0 0, .slice none 0 0, .slice none 0 0, .slice none 0 0, rfl, zero_hdv _, mod_fin hM2⟩)
  simp [results, Tryd.results20, go_sem, q0, q1, q2, q3, q4, q5, q6, q7, q8, Hd.zero, hdV]

set_option maxHeartbeats 4000000 in
set_option maxRecDepth 10000 in
theorem rparse_quiet1 {w : World} {v : Value} {l : List UInt8} {c : UInt8} {s1 : RS} (h : Byts w v l) (hl : (l.length : Int) ≤ 5000) (hne : l ≠ []) (h0 : RS.byte ⟨l, 0⟩ = (c, s1)) (hp : ¬ c.toNat / 64 % 2 = 0) (h128 : 128 ≤ c.toNat) (hq : c.toNat / 4 % 4 = 1) :
    Calls Tryd.prog 20 #[v] w (RefOut w (Hd.zero, 0, 3)) := by
  have HL := Lib.hid hl
  obtain ⟨a0, cp0, rfl, _⟩ := byts_val h
  have HPN := Lib.hid (rp_new (nb := w.heap.size + 1 + 1) (rb := w.heap.size + 1 + 1 + 1) h hl hne rfl rfl)
  have H0 := Lib.hid h0
  have hpos := List.length_pos_iff.2 hne
  have hl0 : ¬ l.length = 0 := by omega
  have hc := c.toNat_lt
  have hci : (c.toNat : Int) < 256 := by omega
  have hw4 : IntKind.u64.wrap ((c.toNat : Int) % 4 + 1) = (c.toNat : Int) % 4 + 1 := IntWalk.u64_in _ (by omega)
  have t64 : (c.toNat : Int) / 64 % 2 = 1 := by omega
  have t128 : decide ((128 : Int) ≤ (c.toNat : Int)) = true := by simp; omega
  have t128b : (!decide ((128 : Int) ≤ (c.toNat : Int))) = false := by rw [t128]; rfl
  have t12 : (c.toNat : Int) / 4 % 4 = 1 := by omega
  clear h hl hne h0 hc hp h128 hq
  go_enter Tryd.func20, Tryd.ntmps20
  go_wp2_with fail
  obtain ⟨w1, hw1⟩ : ∃ w1, w1 = (((w.alloc (.cells #[.bool false, .bool false, .int .i64 0, .int .u32 0, .slice none 0 0, .slice none 0 0, .slice none 0 0, .slice none 0 0, .int .i64 0] 25)).alloc (.cells #[.bool false, .bool false, .int .i64 0, .int .u32 0, .slice none 0 0, .slice none 0 0, .slice none 0 0, .slice none 0 0, .int .i64 0] 25)).alloc (.cells #[.bool false, .bool false, .int .i64 0, .int .u32 0, .slice none 0 0, .slice none 0 0, .slice none 0 0, .slice none 0 0, .int .i64 0] 25)).alloc (.cells #[.slice a0 l.length cp0, .int .i64 0, .int .i64 0] 58) := ⟨_, rfl⟩
  rw [← hw1] at HPN ⊢
  obtain ⟨rb, hrb⟩ : ∃ rb, rb = w.heap.size + 1 + 1 + 1 := ⟨_, rfl⟩
  rw [← hrb] at HPN ⊢
  obtain ⟨nb, hnb⟩ : ∃ nb, nb = w.heap.size + 1 + 1 := ⟨_, rfl⟩
  rw [← hnb] at HPN ⊢
  have hnb1 : ¬ nb = w.heap.size + 1 := by omega
  have hnb2 : ¬ w.heap.size + 1 = nb := by omega
  have hnb3 : ¬ rb = w.heap.size + 1 := by omega
  have hnb4 : ¬ w.heap.size + 1 = rb := by omega
  have hnb5 : ¬ rb = w.heap.size := by omega
  have hnb6 : ¬ w.heap.size = rb := by omega
  have hnb7 : ¬ nb = w.heap.size := by omega
  have hnb8 : ¬ w.heap.size = nb := by omega
  clear hw1 hrb hnb hpos hl0
  (with_reducible refine (refbyte_any HPN.out.r).mono ?_)
  rintro e w2 ⟨rfl, hr2, hM2⟩
  rw [H0.out] at hr2 ⊢
  simp only at hr2 ⊢
  have hP2 := Lib.hid (HPN.out.step hr2 hM2)
  clear hr2 hM2
  obtain ⟨c0, c1, c2, c3, c4, c5, c6, c7, c8, c9⟩ := hP2.out.cells
  obtain ⟨g0, g1, g2, g3, g4, g5, g6, g7, g8⟩ := hP2.out.frozen
  obtain ⟨⟨r0, r1, r2, r3, r4, r5, r6, r7, r8, r9⟩, ⟨f0, f1, f2, f3, f4, f5, f6, f7, f8⟩⟩ := hP2.out.rcells
  obtain ⟨n0, n1, n2, n3, n4, n5, n6, n7, n8, n9⟩ := hP2.out.ncells
  have hP3 := Lib.hid ((hP2.out.put0 (.bool true)).put2 (.int .i64 ((c.toNat : Int) / 16 % 4)))
  go_wp2_with fail
  rw [set9_eq]
  have HB2 := (blk_set9 (.bool false) (.bool false) (.int .i64 0) (.int .u32 0) (.slice none 0 0) (.slice none 0 0) (.slice none 0 0) (.slice none 0 0) (.int .i64 0) hP3.out.res)
  have hM2 := (mod_set9 (b := w.heap.size) (.bool false) (.bool false) (.int .i64 0) (.int .u32 0) (.slice none 0 0) (.slice none 0 0) (.slice none 0 0) (.slice none 0 0) (.int .i64 0) hP3.out.mod (fun _ => Nat.le_refl _))
  obtain ⟨q0, q1, q2, q3, q4, q5, q6, q7, q8, _⟩ := hd_cells HB2
  refine bodyPost_ret (v := .tuple #[_, _, _]) ?_ rfl (refOut_of rfl ⟨.slice none 0 0, .slice none 0 0, .slice none 0 0, .slice none 0 0, rfl, zero_hdv _, mod_fin hM2⟩)
  simp [results, Tryd.results20, go_sem, q0, q1, q2, q3, q4, q5, q6, q7, q8, Hd.zero, hdV]

set_option maxHeartbeats 4000000 in
set_option maxRecDepth 10000 in
theorem rparse_quiet2 {w : World} {v : Value} {l : List UInt8} {c : UInt8} {s1 : RS} (h : Byts w v l) (hl : (l.length : Int) ≤ 5000) (hne : l ≠ []) (h0 : RS.byte ⟨l, 0⟩ = (c, s1)) (hp : ¬ c.toNat / 64 % 2 = 0) (h128 : 128 ≤ c.toNat) (hq : c.toNat / 4 % 4 = 2) :
    Calls Tryd.prog 20 #[v] w (RefOut w (Hd.zero, 0, 3)) := by
  have HL := Lib.hid hl
  obtain ⟨a0, cp0, rfl, _⟩ := byts_val h
  have HPN := Lib.hid (rp_new (nb := w.heap.size + 1 + 1) (rb := w.heap.size + 1 + 1 + 1) h hl hne rfl rfl)
  have H0 := Lib.hid h0
  have hpos := List.length_pos_iff.2 hne
  have hl0 : ¬ l.length = 0 := by omega
  have hc := c.toNat_lt
  have hci : (c.toNat : Int) < 256 := by omega
  have hw4 : IntKind.u64.wrap ((c.toNat : Int) % 4 + 1) = (c.toNat : Int) % 4 + 1 := IntWalk.u64_in _ (by omega)
  have t64 : (c.toNat : Int) / 64 % 2 = 1 := by omega
  have t128 : decide ((128 : Int) ≤ (c.toNat : Int)) = true := by simp; omega
  have t128b : (!decide ((128 : Int) ≤ (c.toNat : Int))) = false := by rw [t128]; rfl
  have t12 : (c.toNat : Int) / 4 % 4 = 2 := by omega
  clear h hl hne h0 hc hp h128 hq
  go_enter Tryd.func20, Tryd.ntmps20
  go_wp2_with fail
  obtain ⟨w1, hw1⟩ : ∃ w1, w1 = (((w.alloc (.cells #[.bool false, .bool false, .int .i64 0, .int .u32 0, .slice none 0 0, .slice none 0 0, .slice none 0 0, .slice none 0 0, .int .i64 0] 25)).alloc (.cells #[.bool false, .bool false, .int .i64 0, .int .u32 0, .slice none 0 0, .slice none 0 0, .slice none 0 0, .slice none 0 0, .int .i64 0] 25)).alloc (.cells #[.bool false, .bool false, .int .i64 0, .int .u32 0, .slice none 0 0, .slice none 0 0, .slice none 0 0, .slice none 0 0, .int .i64 0] 25)).alloc (.cells #[.slice a0 l.length cp0, .int .i64 0, .int .i64 0] 58) := ⟨_, rfl⟩
  rw [← hw1] at HPN ⊢
  obtain ⟨rb, hrb⟩ : ∃ rb, rb = w.heap.size + 1 + 1 + 1 := ⟨_, rfl⟩
  rw [← hrb] at HPN ⊢
  obtain ⟨nb, hnb⟩ : ∃ nb, nb = w.heap.size + 1 + 1 := ⟨_, rfl⟩
  rw [← hnb] at HPN ⊢
  have hnb1 : ¬ nb = w.heap.size + 1 := by omega
  have hnb2 : ¬ w.heap.size + 1 = nb := by omega
  have hnb3 : ¬ rb = w.heap.size + 1 := by omega
  have hnb4 : ¬ w.heap.size + 1 = rb := by omega
  have hnb5 : ¬ rb = w.heap.size := by omega
  have hnb6 : ¬ w.heap.size = rb := by omega
  have hnb7 : ¬ nb = w.heap.size := by omega
  have hnb8 : ¬ w.heap.size = nb := by omega
  clear hw1 hrb hnb hpos hl0
  (with_reducible refine (refbyte_any HPN.out.r).mono ?_)
  rintro e w2 ⟨rfl, hr2, hM2⟩
  rw [H0.out] at hr2 ⊢
  simp only at hr2 ⊢
  have hP2 := Lib.hid (HPN.out.step hr2 hM2)
  clear hr2 hM2
  obtain ⟨c0, c1, c2, c3, c4, c5, c6, c7, c8, c9⟩ := hP2.out.cells
  obtain ⟨g0, g1, g2, g3, g4, g5, g6, g7, g8⟩ := hP2.out.frozen
  obtain ⟨⟨r0, r1, r2, r3, r4, r5, r6, r7, r8, r9⟩, ⟨f0, f1, f2, f3, f4, f5, f6, f7, f8⟩⟩ := hP2.out.rcells
  obtain ⟨n0, n1, n2, n3, n4, n5, n6, n7, n8, n9⟩ := hP2.out.ncells
  have hP3 := Lib.hid ((hP2.out.put0 (.bool true)).put2 (.int .i64 ((c.toNat : Int) / 16 % 4)))
  go_wp2_with fail
  rw [set9_eq]
  have HB2 := (blk_set9 (.bool false) (.bool false) (.int .i64 0) (.int .u32 0) (.slice none 0 0) (.slice none 0 0) (.slice none 0 0) (.slice none 0 0) (.int .i64 0) hP3.out.res)
  have hM2 := (mod_set9 (b := w.heap.size) (.bool false) (.bool false) (.int .i64 0) (.int .u32 0) (.slice none 0 0) (.slice none 0 0) (.slice none 0 0) (.slice none 0 0) (.int .i64 0) hP3.out.mod (fun _ => Nat.le_refl _))
  obtain ⟨q0, q1, q2, q3, q4, q5, q6, q7, q8, _⟩ := hd_cells HB2
  refine bodyPost_ret (v := .tuple #[_, _, _]) ?_ rfl (refOut_of rfl ⟨.slice none 0 0, .slice none 0 0, .slice none 0 0, .slice none 0 0, rfl, zero_hdv _, mod_fin hM2⟩)
  simp [results, Tryd.results20, go_sem, q0, q1, q2, q3, q4, q5, q6, q7, q8, Hd.zero, hdV]

set_option maxHeartbeats 4000000 in
set_option maxRecDepth 10000 in
theorem rparse_quiet3 {w : World} {v : Value} {l : List UInt8} {c : UInt8} {s1 : RS} (h : Byts w v l) (hl : (l.length : Int) ≤ 5000) (hne : l ≠ []) (h0 : RS.byte ⟨l, 0⟩ = (c, s1)) (hp : ¬ c.toNat / 64 % 2 = 0) (h128 : 128 ≤ c.toNat) (hq : c.toNat / 4 % 4 = 3) :
    Calls Tryd.prog 20 #[v] w (RefOut w (Hd.zero, 0, 3)) := by
  have HL := Lib.hid hl
  obtain ⟨a0, cp0, rfl, _⟩ := byts_val h
  have HPN := Lib.hid (rp_new (nb := w.heap.size + 1 + 1) (rb := w.heap.size + 1 + 1 + 1) h hl hne rfl rfl)
  have H0 := Lib.hid h0
  have hpos := List.length_pos_iff.2 hne
  have hl0 : ¬ l.length = 0 := by omega
  have hc := c.toNat_lt
  have hci : (c.toNat : Int) < 256 := by omega
  have hw4 : IntKind.u64.wrap ((c.toNat : Int) % 4 + 1) = (c.toNat : Int) % 4 + 1 := IntWalk.u64_in _ (by omega)
  have t64 : (c.toNat : Int) / 64 % 2 = 1 := by omega
  have t128 : decide ((128 : Int) ≤ (c.toNat : Int)) = true := by simp; omega
  have t128b : (!decide ((128 : Int) ≤ (c.toNat : Int))) = false := by rw [t128]; rfl
  have t12 : (c.toNat : Int) / 4 % 4 = 3 := by omega
  clear h hl hne h0 hc hp h128 hq
  go_enter Tryd.func20, Tryd.ntmps20
  go_wp2_with fail
  obtain ⟨w1, hw1⟩ : ∃ w1, w1 = (((w.alloc (.cells #[.bool false, .bool false, .int .i64 0, .int .u32 0, .slice none 0 0, .slice none 0 0, .slice none 0 0, .slice none 0 0, .int .i64 0] 25)).alloc (.cells #[.bool false, .bool false, .int .i64 0, .int .u32 0, .slice none 0 0, .slice none 0 0, .slice none 0 0, .slice none 0 0, .int .i64 0] 25)).alloc (.cells #[.bool false, .bool false, .int .i64 0, .int .u32 0, .slice none 0 0, .slice none 0 0, .slice none 0 0, .slice none 0 0, .int .i64 0] 25)).alloc (.cells #[.slice a0 l.length cp0, .int .i64 0, .int .i64 0] 58) := ⟨_, rfl⟩
  rw [← hw1] at HPN ⊢
  obtain ⟨rb, hrb⟩ : ∃ rb, rb = w.heap.size + 1 + 1 + 1 := ⟨_, rfl⟩
  rw [← hrb] at HPN ⊢
  obtain ⟨nb, hnb⟩ : ∃ nb, nb = w.heap.size + 1 + 1 := ⟨_, rfl⟩
  rw [← hnb] at HPN ⊢
  have hnb1 : ¬ nb = w.heap.size + 1 := by omega
  have hnb2 : ¬ w.heap.size + 1 = nb := by omega
  have hnb3 : ¬ rb = w.heap.size + 1 := by omega
  have hnb4 : ¬ w.heap.size + 1 = rb := by omega
  have hnb5 : ¬ rb = w.heap.size := by omega
  have hnb6 : ¬ w.heap.size = rb := by omega
  have hnb7 : ¬ nb = w.heap.size := by omega
  have hnb8 : ¬ w.heap.size = nb := by omega
  clear hw1 hrb hnb hpos hl0
  (with_reducible refine (refbyte_any HPN.out.r).mono ?_)
  rintro e w2 ⟨rfl, hr2, hM2⟩
  rw [H0.out] at hr2 ⊢
  simp only at hr2 ⊢
  have hP2 := Lib.hid (HPN.out.step hr2 hM2)
  clear hr2 hM2
  obtain ⟨c0, c1, c2, c3, c4, c5, c6, c7, c8, c9⟩ := hP2.out.cells
  obtain ⟨g0, g1, g2, g3, g4, g5, g6, g7, g8⟩ := hP2.out.frozen
  obtain ⟨⟨r0, r1, r2, r3, r4, r5, r6, r7, r8, r9⟩, ⟨f0, f1, f2, f3, f4, f5, f6, f7, f8⟩⟩ := hP2.out.rcells
  obtain ⟨n0, n1, n2, n3, n4, n5, n6, n7, n8, n9⟩ := hP2.out.ncells
  have hP3 := Lib.hid ((hP2.out.put0 (.bool true)).put2 (.int .i64 ((c.toNat : Int) / 16 % 4)))
  go_wp2_with fail
  rw [set9_eq]
  have HB2 := (blk_set9 (.bool false) (.bool false) (.int .i64 0) (.int .u32 0) (.slice none 0 0) (.slice none 0 0) (.slice none 0 0) (.slice none 0 0) (.int .i64 0) hP3.out.res)
  have hM2 := (mod_set9 (b := w.heap.size) (.bool false) (.bool false) (.int .i64 0) (.int .u32 0) (.slice none 0 0) (.slice none 0 0) (.slice none 0 0) (.slice none 0 0) (.int .i64 0) hP3.out.mod (fun _ => Nat.le_refl _))
  obtain ⟨q0, q1, q2, q3, q4, q5, q6, q7, q8, _⟩ := hd_cells HB2
  refine bodyPost_ret (v := .tuple #[_, _, _]) ?_ rfl (refOut_of rfl ⟨.slice none 0 0, .slice none 0 0, .slice none 0 0, .slice none 0 0, rfl, zero_hdv _, mod_fin hM2⟩)
  simp [results, Tryd.results20, go_sem, q0, q1, q2, q3, q4, q5, q6, q7, q8, Hd.zero, hdV]

end Go.Proofs.YtolbeamphmoimaaDoor
