/- A text's bytes, with how many they are: the program's. -/
import Derived.Test.YtcnpiclpdgkngaaDoorFaQ
import Derived.Test.YtcnpiclpdgkngaaDoorFaG
import Derived.Test.YtcnpiclpdgkngaaDoorAppB
import Derived.Lib.AppendStr
namespace Go.Proofs.YtcnpiclpdgkngaaDoor
open Go.RowKit

theorem strCells_bv (l : List UInt8) : Lib.strCells ⟨l.toArray⟩ = l.map bv := by simp [Lib.strCells, bv]
theorem wpList_append_s {w : World} {ops : Array Oper} {rest : List Oper} {o : Oper} {a : Act} {Q : Exit → Act → World → Prop} (hgd : o.guard = none) (s x : Operand)
    (ho : o.op = .call { callee := .builtin .append, args := #[s, x], argTypes := #[24, 9] })
    (v : Value) (l : List UInt8) (B n : Nat) (hs : a.eval s = v) (hown : OwnB w B v l)
    (st : ByteArray) (news : List UInt8) (hst : st = ⟨news.toArray⟩) (hx : a.eval x = .string st) (L : List UInt8) (hL : L = l ++ news) (hn : l.length + news.length = n) (hbytes : (n : Int) ≤ 140737488355328) (hbase : B ≤ w.heap.size)
    (h : ∀ ap cp w', App w w' B n v (.slice ap n cp) L → wpList Tryd.prog ops Q rest (a.put o.dst (.slice ap n cp)) w') : wpList Tryd.prog ops Q (o :: rest) a w := by
  subst hL
  subst hst
  obtain ⟨i0, hi, hz0, hz1, hz2⟩ := info_parts Tryd.info5
  have e0 := str_size news
  refine Lib.wpList_append_own_string w hgd s x 24 9 ho B 5 i0 Tryd.underlying24 Tryd.underlying9 hi hz0 hz1 hz2 v l.length (l.map bv) hs hown ⟨news.toArray⟩ hx (by rw [e0]; simp only [maxLen]; omega) (by rw [e0]; omega) hbase ?_
  intro v' w' ho' hg _
  have ho2 : OwnB w' B v' (l ++ news) := by unfold OwnB; rw [e0, strCells_bv] at ho'; simpa using ho'
  obtain ⟨ap, cp, rfl, _⟩ := byts_val ho2.byts
  have e : (l ++ news).length = n := by simpa using hn
  rw [e] at ho2 ⊢
  exact h ap cp w' ⟨ho2, ho2.byts, ⟨_, _, rfl⟩, fun hM hS => hM.grown hg (fun k hk hlt => hS k hk hlt), fun g hg' => (World.ownsRow.lt hown g hg').1⟩
set_option maxHeartbeats 2000000 in
set_option maxRecDepth 10000 in
theorem text_any (s : List UInt8) (hl : (s.length : Int) ≤ 100000) (w : World) (hT : Tabs w) :
    Calls Tryd.prog 45 #[strV s] w fun e w' => ∃ v, e = .returned v ∧ OwnB w' w.heap.size v (textL s) ∧ Mod (fun _ => False) w w' := by
  have HP := Lib.hid (put_any s.length w hT)
  obtain ⟨L, hL⟩ : ∃ L, L = textL s := ⟨_, rfl⟩
  rw [← hL]
  have HLL : Hid (L = putL s.length ++ s) := hL
  have hpl := putL_len s.length
  have hs1 := str_size s
  unfold strV
  generalize hb1 : (ByteArray.mk s.toArray) = s1 at *
  have HB1 := Lib.hid hb1
  clear hT hL hb1
  generalize putL s.length = P at *
  generalize hns : s.length = ns at *
  have HNS := Lib.hid hns
  clear hns
  go_enter Tryd.func45, Tryd.ntmps45
  go_wp2_with fail
  refine (HP.out).mono ?_
  rintro e w1 ⟨v, rfl, ho, hM⟩
  obtain ⟨a1, c1, rfl, _⟩ := byts_val ho.byts
  have HM := Lib.hid hM
  have HO := Lib.hid ho
  obtain ⟨n, hn⟩ : ∃ n, n = P.length + ns := ⟨_, rfl⟩
  have hn2 : (n : Int) ≤ 200000 := by omega
  have HNN := Lib.hid hn
  clear ho hM HP hn
  generalize hnp : P.length = np at *
  have HNP := Lib.hid hnp
  clear hnp
  go_wp2_with ((with_reducible refine wpList_append_s ?_ (.tmp 6) (.tmp 7) ?_ (.slice a1 np c1) P w.heap.size n ?_ HO.out s1 s HB1.out.symm ?_ L HLL.out ?_ ?_ HM.out.size ?_); (· exact rfl); (· exact rfl); (· exact rfl); (· exact rfl); (· have := HNP.out; have := HNS.out; have := HNN.out; omega); (· omega); intro ap cp w2 hA; have HA := Lib.hid hA; clear hA)
  go_ret
  exact ⟨_, rfl, HA.out.own, HA.out.modF HM.out (Nat.le_refl _)⟩
end Go.Proofs.YtcnpiclpdgkngaaDoor
