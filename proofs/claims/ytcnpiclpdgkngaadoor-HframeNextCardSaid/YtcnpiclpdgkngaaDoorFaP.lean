/- Are fields right: the program's. -/
import Derived.Test.YtcnpiclpdgkngaaDoorFaO
namespace Go.Proofs.YtcnpiclpdgkngaaDoor
open Go.RowKit

def strV (l : List UInt8) : Value := .string ⟨l.toArray⟩
theorem str_size (l : List UInt8) : (ByteArray.mk l.toArray).size = l.length := by simp [ByteArray.size]
def fdC (f : Fd) : List Value := [strV f.n, strV f.v]
/-- Fields in memory. -/
def FldV (w : World) (v : Value) (l : List Fd) : Prop := Sl w 2 v l.length (l.flatMap fdC)
theorem fdC_one (l : List Fd) : ∀ u ∈ l.flatMap fdC, u.oneCell' = true := by
  intro u hu
  obtain ⟨s, _, h⟩ := List.mem_flatMap.1 hu
  simp only [fdC, List.mem_cons, List.not_mem_nil, or_false] at h
  rcases h with rfl | rfl <;> rfl
theorem fdC_at : ∀ (l : List Fd) (i : Nat) (s : Fd), l[i]? = some s → (l.flatMap fdC)[i * 2]? = some (strV s.n) ∧ (l.flatMap fdC)[i * 2 + 1]? = some (strV s.v)
  | [], i, s, h => by simp at h
  | x :: l, 0, s, h => by simp at h; subst h; exact ⟨rfl, rfl⟩
  | x :: l, i + 1, s, h => by
    have := fdC_at l i s (by simpa using h)
    rw [List.flatMap_cons, show (i + 1) * 2 = i * 2 + 2 by omega]
    exact this
theorem fld_val {w : World} {v : Value} {l : List Fd} (h : FldV w v l) : ∃ a cap, v = .slice a l.length cap ∧ l.length ≤ cap ∧ cap ≤ maxLen ∧ (a = none → cap = 0) := Sl.val h
theorem fld_addr {w : World} {v : Value} {l : List Fd} (h : FldV w v l) (hx : l ≠ []) :
    ∃ b off cap, v = .slice (some ⟨b, off, none⟩) l.length cap ∧ l.length ≤ cap ∧ cap ≤ maxLen ∧ ∀ i s, l[i]? = some s → w.cell? ⟨b, off + i * 2, none⟩ = some (strV s.n) ∧ w.cell? ⟨b, off + i * 2 + 1, none⟩ = some (strV s.v) := by
  obtain ⟨b, off, cap, h1, h2, h3, h4⟩ := Sl.addr h (by
    cases l with
    | nil => exact absurd rfl hx
    | cons x l => simp [fdC])
  refine ⟨b, off, cap, h1, h2, h3, fun i s hs => ?_⟩
  obtain ⟨e1, e2⟩ := fdC_at l i s hs
  exact ⟨h4 _ _ e1, by rw [Nat.add_assoc]; exact h4 _ _ e2⟩
theorem FldV.kept {w w' : World} {v : Value} {l : List Fd} (h : FldV w v l) (hM : Mod (fun _ => False) w w') : FldV w' v l := Sl.kept h hM (fun _ _ h => h)
/-- A string as bytes. -/
theorem bytesRow_at (l : List UInt8) (cap j : Nat) (u : Value) (h : (l.map bv)[j]? = some u) : (bytesRow ⟨l.toArray⟩ cap)[j]? = some u := by
  obtain ⟨x, hx, rfl⟩ := by simpa [List.getElem?_map] using h
  have hj := (List.getElem?_eq_some_iff.1 hx).1
  unfold bytesRow
  rw [Array.getElem?_append_left (by simpa using hj)]
  simp [bv, hx]
theorem conv_str (w : World) (l : List UInt8) (hl : (l.length : Int) ≤ 100000) : ∃ c w', (convert 9 24 (strV l)).run Tryd.prog w = .ok (.slice (some ⟨w.heap.size, 0, none⟩) l.length c) w' ∧ Byts w' (.slice (some ⟨w.heap.size, 0, none⟩) l.length c) l ∧ Mod (fun _ => False) w w' := by
  refine ⟨_, _, (by have := run_bytes_of_string (P := Tryd.prog) w 9 24 5 ⟨l.toArray⟩ Tryd.underlying9 Tryd.underlying24 Tryd.underlying5; rw [str_size] at this; exact this), ?_, (Mod.refl _ w).drew.alloc _⟩
  refine ⟨by simp, _, _, rfl, grownCap_ge _ _ _ _, grownCap_le_maxLen _ _ _ _ (by simp only [maxLen]; omega), fun h => by simp at h, fun j u hu => ⟨w.heap.size, 0, rfl, ?_⟩⟩
  rw [Nat.zero_add]
  exact (cell_of_row _ _ _ _ _ _ (heap_alloc_new w.drew _)).trans (bytesRow_at l _ j u hu)
set_option maxHeartbeats 2000000 in
set_option maxRecDepth 10000 in
theorem badfd_any {w : World} (f : Fd) (hT : UTabs w) (h1 : (f.n.length : Int) ≤ 100000) (h2 : (f.v.length : Int) ≤ 100000) :
    Calls Tryd.prog 41 #[.agg #[strV f.n, strV f.v]] w fun e w' => e = .returned (.bool (badFd f)) ∧ Mod (fun _ => False) w w' := by
  obtain ⟨c, wc, hrun, hb, hMc⟩ := conv_str (w.alloc (.cells #[strV f.n, strV f.v] 52)) f.n h1
  have hz : (w.alloc (.cells #[strV f.n, strV f.v] 52)).heap.size = w.heap.size + 1 := by simp
  rw [hz] at hrun hb
  have hMw := ((Mod.refl (fun _ => False) w).alloc (.cells #[strV f.n, strV f.v] 52)).trans hMc
  have HU := Lib.hid (upin_any (hT.kept hMw) hb h1)
  have hs1 := str_size f.n
  have hs2 := str_size f.v
  unfold strV at *
  generalize hb1 : (ByteArray.mk f.n.toArray) = s1 at *
  generalize hb2 : (ByteArray.mk f.v.toArray) = s2 at *
  clear hb1 hb2
  obtain ⟨R, hR⟩ : ∃ R, R = badFd f := ⟨_, rfl⟩
  rw [← hR]
  have HRR : Hid (R = (decide (f.n.length < 1) || decide (60 < f.n.length) || decide (200 < f.v.length) || f.n.any isUp)) := hR
  generalize f.n.any isUp = U at *
  clear hR hT hb hMc
  have HM := Lib.hid hMw
  clear hMw
  generalize f.n.length = n1 at *
  generalize f.v.length = n2 at *
  go_enter Tryd.func41, Tryd.ntmps41
  go_wp2_with fail
  · refine (HU.out).mono ?_
    rintro e w1 ⟨rfl, hM1⟩
    have HM1 := Lib.hid hM1
    clear hM1
    go_wp2
    go_ret
    refine ⟨ret_bool ?_, HM.out.trans HM1.out⟩
    rw [HRR.out]
    rw [Bool.eq_iff_iff]
    cases U <;> simp <;> omega
  all_goals
    go_ret
    refine ⟨ret_bool ?_, (Mod.refl _ w).alloc _⟩
    rw [HRR.out]
    simp
    try omega
end Go.Proofs.YtcnpiclpdgkngaaDoor
