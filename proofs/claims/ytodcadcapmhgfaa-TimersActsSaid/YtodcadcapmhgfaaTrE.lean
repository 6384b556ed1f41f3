/- The document's queue: Drop. -/
import Derived.Test.YtodcadcapmhgfaaTrD
namespace Go.Proofs.Ytodcadcapmhgfaa
open Go.RowKit

set_option maxHeartbeats 4000000 in
set_option maxRecDepth 10000 in
theorem rdrop_any {B : Nat} {w : World} {rb : Nat} {rv : Value} {L : List Tm} (c : Int) (q : RQ B w rb rv L) (hq : QL L) :
    Calls Try.prog 21 #[.pointer (some ⟨rb, 0, none⟩), .int .i64 c] w fun e w' => e = .returned (.int .i64 ((L.length : Int) - ((dropL c L).length : Int))) ∧ RC B w w' rb rv L (dropL c L) := by
  obtain ⟨a, cap, rfl, hcap, -⟩ := q.val.val
  have HQ0 := Lib.hid q
  obtain ⟨M, hM⟩ : ∃ M, M = L.length := ⟨_, rfl⟩
  have hqm := q
  rw [← hM] at hqm
  have HQ := Lib.hid hqm
  have HML := Lib.hid hM
  have HL2 := Lib.hid hq.n
  have M1 : (M : Int) ≤ 200 := by have := hq.n; omega
  have c0 : w.cell? ⟨rb, 0, none⟩ = some (.slice a M cap) := hqm.blk.cellAt 0 rfl
  have HC := Lib.hid c0
  clear hcap q hqm hM hq
  go_enter Try.func21, Try.ntmps21
  go_wp2_with fail
  go_loopw [5, 6] (fun s8 s9 wr => ∃ (j : Nat) (a5 : Option Addr) (n5 c5 : Nat), s8 = .slice a5 n5 c5 ∧ s9 = .int .i64 (j : Int) ∧ j ≤ M ∧ n5 = (dropL c (L.take j)).length ∧ Hid (OwnT wr w.heap.size (.slice a5 n5 c5) (dropL c (L.take j)) ∧ Mod (fun _ => False) w wr)) (fun _ s9 _ => M - (match s9 with | .int _ z => z.toNat | _ => 0))
  case atStart => exact ⟨0, none, 0, 0, rfl, rfl, Nat.zero_le _, by simp [dropL], Lib.hid ⟨by simpa [dropL] using OwnT.nil w w.heap.size, Mod.refl _ _⟩⟩
  case round =>
    obtain ⟨j, a5, n5, c5, rfl, rfl, hj, hn5, HS⟩ := hrel
    have j0 : (0 : Int) ≤ (j : Int) := by omega
    have HJ := Lib.hid hj
    have h5l : (dropL c (L.take j)).length ≤ j := by
      have := List.length_filter_le (fun t : Tm => !decide (t.c = c)) (L.take j)
      unfold dropL
      rw [List.length_take] at this
      omega
    have HN5 := Lib.hid (And.intro hn5 h5l)
    have c0r : wr.cell? ⟨rb, 0, none⟩ = some (.slice a M cap) := HS.out.2.cellAt HC.out (fun e => e)
    by_cases hlt : j < M
    · have j1 : (j : Int) < (M : Int) := by omega
      obtain ⟨x, hx⟩ : ∃ x, L[j]? = some x := ⟨_, List.getElem?_eq_getElem (by have := HML.out; omega)⟩
      obtain ⟨b, off, cap2, hv1, hr⟩ := HQ.out.val.at hx
      simp only [Value.slice.injEq] at hv1
      obtain ⟨rfl, -, -⟩ := hv1
      have HR : Hid (wr.rangeAt b (off + j * 3) (tmL x)) := Lib.hid (fun k u hu => HS.out.2.cellAt (hr k u hu) (fun e => e))
      have HSN := Lib.hid (take_snocT hx)
      have d1 : wr.cell? ⟨b, off + j * 3 + 1, none⟩ = some (.int .i64 x.c) := HR.out 1 _ rfl
      have HJM := Lib.hid hlt
      clear hr hx hj hlt hn5 h5l
      by_cases hc : x.c = c
      · have q1 : (x.c != c) = false := by simp [hc]
        have HD : Hid (dropL c (L.take (j + 1)) = dropL c (L.take j)) := Lib.hid (by rw [HSN.out]; simp [dropL, hc])
        clear hc
        go_wp2_with fail
        go_roundw
        case rel => exact ⟨j + 1, a5, n5, c5, rfl, by go_num, by have := HJM.out; omega, by rw [HD.out]; exact HN5.out.1, by rw [HD.out]; exact HS⟩
        case measure => have := HJM.out; simp; omega
      · have q1 : (x.c != c) = true := by simpa using hc
        have HD : Hid (dropL c (L.take (j + 1)) = dropL c (L.take j) ++ [x]) := Lib.hid (by rw [HSN.out]; simp [dropL, hc])
        have H200 : Hid ((dropL c (L.take j)).length ≤ 200 ∧ w.heap.size ≤ wr.heap.size) := Lib.hid ⟨by have := HN5.out.2; have := HJM.out; omega, HS.out.2.size⟩
        have HOA : Hid (OwnT (wr.alloc (.cells (tmA x) 27)) w.heap.size (.slice a5 n5 c5) (dropL c (L.take j)) ∧ w.heap.size ≤ (wr.alloc (.cells (tmA x) 27)).heap.size ∧ Mod (fun _ => False) w (wr.alloc (.cells (tmA x) 27))) := Lib.hid ⟨HS.out.1.still ((Mod.refl _ _).alloc _), (HS.out.2.alloc _).size, HS.out.2.alloc _⟩
        clear hc
        go_wp2_with (first
          | ((with_reducible refine wpList_load_tm ?_ (.tmp 33) ?_ b (off + j * 3) ?_ x HR.out ?_); (· exact rfl); (· exact rfl); (· exact rfl))
          | ((with_reducible refine wpList_build_tm ?_ (.tmp 34) ?_ x ?_ ?_); (· exact rfl); (· exact rfl); (· exact rfl))
          | ((with_reducible refine wpList_append_tm ?_ (.tmp 27) (.tmp 35) ?_ (.slice a5 n5 c5) (dropL c (L.take j)) w.heap.size wr.heap.size ?_ HOA.out.1 H200.out.1 HOA.out.2.1 ?_ x (Blk.new wr (tmA x) 27) ?_); (· exact rfl); (· exact rfl); (· exact rfl); (· exact rfl); intro ap cp w9 ho9 hM9 hat9; rw [← HN5.out.1] at ho9; rw [← HN5.out.1]; have HO9 := Lib.hid (And.intro ho9 (HOA.out.2.2.trans' hM9 (fun k hk e => by have := (HOA.out.1.lt k e).1; omega))); clear ho9 hM9 hat9)
          | fail)
        go_roundw
        case rel => exact ⟨j + 1, ap, n5 + 1, cp, rfl, by go_num, by have := HJM.out; omega, by rw [HD.out, List.length_append, ← HN5.out.1]; rfl, by rw [HD.out]; exact HO9⟩
        case measure => have := HJM.out; simp; omega
    · have j1 : ¬ (j : Int) < (M : Int) := by omega
      obtain rfl : j = M := by omega
      have htk : L.take j = L := List.take_of_length_le (by have := HML.out; omega)
      have ho := HS.out.1
      have hn6 := HN5.out.1
      rw [htk] at ho hn6
      have HO := Lib.hid ho
      have HN6 := Lib.hid hn6
      have n50 : (0 : Int) ≤ (n5 : Int) := by omega
      have n51 : (n5 : Int) ≤ (j : Int) := by rw [hn5]; omega
      have HPUT := Lib.hid (HQ0.out.put HS.out.2 ho)
      have f0r : wr.frozen? ⟨rb, 0, none⟩ = false := (HS.out.2.blk HQ.out.blk (fun e => e)).free 0
      clear hlt hj hn5 h5l htk ho hn6
      go_wp2_with fail
      go_ret
      refine ⟨by rw [← HML.out, ← HN6.out]; rfl, ?_⟩
      exact HPUT.out
end Go.Proofs.Ytodcadcapmhgfaa
