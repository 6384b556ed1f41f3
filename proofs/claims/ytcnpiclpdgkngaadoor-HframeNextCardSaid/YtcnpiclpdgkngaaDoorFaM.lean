/- The program's Next; its Same. -/
import Derived.Test.YtcnpiclpdgkngaaDoorFaL
import Derived.Test.YtcnpiclpdgkngaaDoorBeq
import Derived.BigQuiet
namespace Go.Proofs.YtcnpiclpdgkngaaDoor
open Go.RowKit

theorem enter_rdata (args : Array Value) (w : World) : (callFunc 50 args).run Tryd.prog w = .ok (.enter 50 args) w := by kernel_rfl
theorem enter_rid (args : Array Value) (w : World) : (callFunc 52 args).run Tryd.prog w = .ok (.enter 52 args) w := by kernel_rfl
theorem enter_rset (args : Array Value) (w : World) : (callFunc 54 args).run Tryd.prog w = .ok (.enter 54 args) w := by kernel_rfl
theorem kind_cases {k : Nat} (h : isKind k = true) : k = 0 ∨ k = 1 ∨ k = 3 ∨ k = 4 ∨ k = 7 ∨ k = 13 := by
  unfold isKind isData isId at h
  simp only [Bool.or_eq_true, decide_eq_true_eq] at h
  omega
theorem next_any {w : World} {v : Value} {b : List UInt8} (h : Byts w v b) (hl : (b.length : Int) ≤ 100000) : Calls Tryd.prog 19 #[v] w (NextR w (nextL b)) := by
  by_cases h1 : (RS.int ⟨b, 0⟩).2.e = 0
  · cases ho : isOld (RS.int ⟨b, 0⟩).1
    · by_cases h3 : ((RS.int ⟨b, 0⟩).2.int.2.bytes (RS.int ⟨b, 0⟩).2.int.1).2.e = 0
      · cases hk : isKind (RS.int ⟨b, 0⟩).1
        · exact next_none h hl h1 ho h3 hk
        · rcases kind_cases hk with e | e | e | e | e | e
          · exact next_kind h hl h1 ho h3 hk _ _ (by rw [e]; rfl) (by rw [e]; exact kread_data 0 (.inl rfl)) enter_rdata
          · exact next_kind h hl h1 ho h3 hk _ _ (by rw [e]; rfl) (by rw [e]; exact kread_data 1 (.inr rfl)) enter_rdata
          · exact next_kind h hl h1 ho h3 hk _ _ (by rw [e]; rfl) (by rw [e]; exact kread_id 3 (.inl rfl)) enter_rid
          · exact next_kind h hl h1 ho h3 hk _ _ (by rw [e]; rfl) (by rw [e]; exact kread_set) enter_rset
          · exact next_kind h hl h1 ho h3 hk _ _ (by rw [e]; rfl) (by rw [e]; exact kread_id 7 (.inr (.inl rfl))) enter_rid
          · exact next_kind h hl h1 ho h3 hk _ _ (by rw [e]; rfl) (by rw [e]; exact kread_id 13 (.inr (.inr rfl))) enter_rid
      · exact next_short h hl h1 ho h3
    · exact next_old h hl h1 ho
  · exact next_bad h hl h1
end Go.Proofs.YtcnpiclpdgkngaaDoor
