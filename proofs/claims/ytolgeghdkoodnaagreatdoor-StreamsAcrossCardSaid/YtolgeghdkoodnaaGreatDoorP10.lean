/- Parts of the proof: SoA SsA SrA SrB SrC SrD SrE. -/
import Derived.Test.YtolgeghdkoodnaaGreatDoorP01
import Derived.Test.YtolgeghdkoodnaaGreatDoorP03
import Derived.Test.YtolgeghdkoodnaaGreatDoorP09
import Derived.Lib.Hide
import Derived.Test.YtolgeghdkoodnaaGreatDoorProg
import Derived.Sort.AssemblyPlain
import Derived.Sort.Grow
import Derived.WalkKit
import Derived.BigGuard
import Derived.BigCall
import Derived.CellFam
import Derived.Deep.Draws
import Derived.Deep.QuietTactic
import Derived.BigQuiet
import Derived.Deep.RegionHeld
import Derived.Deep.Cut
import Derived.Deep.DeepCutAuto
import Derived.WalkMore
import Derived.WalkSpells
import Derived.WalkLawsBesides
import Derived.Deep.CutBlock
import Derived.Lib.MinMax
set_option maxRecDepth 100000
namespace Go.Proofs.YtolgeghdkoodnaaGreatDoor
open Go.RowKit
structure OB where
 b : List UInt8
 s : List UInt8
 fin : Bool
 e : UInt8
 lim : Nat
def oCells (bv sv : Value) (o : OB) : Array Value := #[bv, sv, .bool o.fin, .int .u8 (o.e.toNat : Int), .int .u64 (o.lim : Int)]
structure OBuf (B : Nat) (w : World) (ob : Nat) (bv sv : Value) (o : OB) : Prop where
 at0 : B ≤ ob
 blk : Blk w ob (oCells bv sv o) 109
 b : OwnB w B bv o.b
 s : OwnB w B sv o.s
 len : o.s.length = o.b.length
 most : o.b.length ≤ 2000
 lim : o.lim < 18446744073709551616
 apart : ∀ k, bv.ownBlock = some k → sv.ownBlock ≠ some k
def OS (ob : Nat) (bv sv : Value) : Nat → Prop := fun k => k = ob ∨ bv.ownBlock = some k ∨ sv.ownBlock = some k
theorem OwnB.lt {w : World} {B : Nat} {v : Value} {l : List UInt8} (ho : OwnB w B v l) : ∀ g, v.ownBlock = some g → B ≤ g ∧ g < w.heap.size := fun g hg => World.ownsRow.lt ho g hg
theorem OwnB.ne {w : World} {B b : Nat} {v : Value} {l : List UInt8} {C : Array Value} {T : TypeId} (ho : OwnB w B v l) (hb : Blk w b C T) (ht : T ≠ 5) : ∀ g, v.ownBlock = some g → ¬ g = b := by
 rintro g e rfl
 rcases ho.2 with ⟨rfl, _⟩ | ⟨g', cap, cur, rfl, _, hg, _⟩
 ·simp [Value.ownBlock] at e
 ·simp [Value.ownBlock] at e
  subst e
  exact Blk.ne hb (show Blk w g' cur 5 from hg) ht rfl
theorem OwnB.keptM {S : Nat → Prop} {w w' : World} {B : Nat} {v : Value} {l : List UInt8} (ho : OwnB w B v l) (hM : Mod S w w') (hS : ∀ g, v.ownBlock = some g → ¬ S g) : OwnB w' B v l := hM.own ho hS
theorem OBuf.kept {S : Nat → Prop} {B : Nat} {w w' : World} {ob : Nat} {bv sv : Value} {o : OB} (q : OBuf B w ob bv sv o) (hM : Mod S w w') (hS : ∀ k, OS ob bv sv k → ¬ S k) : OBuf B w' ob bv sv o :=
 ⟨q.at0, hM.blk q.blk (hS ob (.inl rfl)), q.b.keptM hM (fun g hg => hS g (.inr (.inl hg))), q.s.keptM hM (fun g hg => hS g (.inr (.inr hg))), q.len, q.most, q.lim, q.apart⟩
theorem OBuf.still {B : Nat} {w w' : World} {ob : Nat} {bv sv : Value} {o : OB} (q : OBuf B w ob bv sv o) (hM : Mod (fun _ => False) w w') : OBuf B w' ob bv sv o := q.kept hM (fun _ _ h => h)
theorem OBuf.lt {B : Nat} {w : World} {ob : Nat} {bv sv : Value} {o : OB} (q : OBuf B w ob bv sv o) : ∀ k, OS ob bv sv k → B ≤ k ∧ k < w.heap.size := by
 rintro k (rfl | e | e)
 ·exact ⟨q.at0, q.blk.lt⟩
 ·exact q.b.lt k e
 ·exact q.s.lt k e
def OC (B : Nat) (w w' : World) (ob : Nat) (bv sv : Value) (o' : OB) : Prop :=
 ∃ bv' sv', OBuf B w' ob bv' sv' o' ∧ (∀ k, OS ob bv' sv' k → OS ob bv sv k ∨ (w.heap.size ≤ k ∧ k < w'.heap.size)) ∧ Mod (OS ob bv sv) w w'
def newO (lim : Nat) : OB := ⟨[], [], false, 0, lim⟩
theorem OwnB.nilI (w : World) (B : Nat) : OwnB w B (.slice none 0 0) [] := World.ownsRow_nil _ _ _ _
theorem onew_any (w : World) (lim : Nat) (hl : lim < 18446744073709551616) :
  Calls Tryz.prog 57 #[.int .u64 (lim : Int)] w fun e w' => e = .returned (.pointer (some ⟨w.heap.size, 0, none⟩)) ∧ OBuf w.heap.size w' w.heap.size (.slice none 0 0) (.slice none 0 0) (newO lim) ∧ Mod (fun _ => False) w w' := by
 have HB := Lib.hid (Blk.new w (oCells (.slice none 0 0) (.slice none 0 0) (newO lim)) 109)
 have HM : Hid (Mod (fun _ => False) w (w.alloc (.cells (oCells (.slice none 0 0) (.slice none 0 0) (newO lim)) 109))) := Lib.hid ((Mod.refl _ _).alloc _)
 have HL := Lib.hid hl
 clear hl
 go_enter Tryz.func57, Tryz.ntmps57
 go_wp2_with fail
 go_ret
 exact ⟨rfl, ⟨Nat.le_refl _, HB.out, OwnB.nilI _ _, OwnB.nilI _ _, rfl, by simp [newO], HL.out, by simp [Value.ownBlock]⟩, HM.out⟩
theorem ofinish_any {B : Nat} {w : World} {ob : Nat} {bv sv : Value} {o : OB} (q : OBuf B w ob bv sv o) :
  Calls Tryz.prog 52 #[.pointer (some ⟨ob, 0, none⟩)] w fun e w' => e = .returned (.bool (!o.fin)) ∧ OC B w w' ob bv sv { o with fin := true } := by
 have c2 : w.cell? ⟨ob, 2, none⟩ = some (.bool o.fin) := q.blk.cellAt 2 rfl
 have f2 : w.frozen? ⟨ob, 2, none⟩ = false := q.blk.free 2
 obtain ⟨b, s, fin, e, lim⟩ := o
 dsimp only at c2 ⊢
 have HQ := Lib.hid q
 clear q
 cases fin with
 | true =>
  go_enter Tryz.func52, Tryz.ntmps52
  go_wp2_with fail
  go_ret
  exact ⟨rfl, bv, sv, HQ.out, fun k hk => .inl hk, Mod.refl _ _⟩
 | false =>
  go_enter Tryz.func52, Tryz.ntmps52
  go_wp2_with fail
  go_ret
  have hM : Mod (fun k => k = ob) w (w.setCell ⟨ob, 2, none⟩ (.bool true)) := (Mod.refl (fun k => k = ob) _).setCell (p := ⟨ob, 2, none⟩) (fun _ => rfl) _
  have q := HQ.out
  have hb1 := q.b.ne q.blk (by decide)
  have hb2 := q.s.ne q.blk (by decide)
  exact ⟨rfl, bv, sv, ⟨q.at0, q.blk.set 2 (.bool true), q.b.keptM hM hb1, q.s.keptM hM hb2, q.len, q.most, q.lim, q.apart⟩, fun k hk => .inl hk, hM.mono (fun k _ e => .inl e)⟩
theorem owritten_any {B : Nat} {w : World} {ob : Nat} {bv sv : Value} {o : OB} (q : OBuf B w ob bv sv o) :
  Calls Tryz.prog 69 #[.pointer (some ⟨ob, 0, none⟩)] w fun e w' => w = w' ∧ e = .returned (.int .i64 (o.b.length : Int)) := by
 obtain ⟨a, cap, rfl, -⟩ := Sl.val q.b.byts
 have c0 : w.cell? ⟨ob, 0, none⟩ = some (.slice a o.b.length cap) := q.blk.cellAt 0 rfl
 clear q
 go_enter Tryz.func69, Tryz.ntmps69
 go_wp2_with fail
 go_ret
 exact ⟨rfl, rfl⟩
def raiseO (l : Nat) (o : OB) : OB := if o.lim < l then { o with lim := l } else o
end Go.Proofs.YtolgeghdkoodnaaGreatDoor
set_option maxRecDepth 100000
namespace Go.Proofs.YtolgeghdkoodnaaGreatDoor
open Go.RowKit Go.Sort
theorem isnan_any (x : Int) (w : World) : Calls Tryz.prog 182 #[.int .u64 x] w fun e w' => e = .returned (.bool false) ∧ w' = w := by
 go_enter Tryz.func182, Tryz.ntmps182
 go_wp2
 go_ret
 exact ⟨by simp, rfl⟩
theorem less_any (x y : Int) (w : World) : Calls Tryz.prog 159 #[.int .u64 x, .int .u64 y] w fun e w' => e = .returned (.bool (Sort.ltInt x y)) ∧ w' = w := by
 go_enter Tryz.func159, Tryz.ntmps159
 go_wp2_with (go_at_call 182; refine (isnan_any _ _).mono ?_; rintro e w' ⟨rfl, rfl⟩)
 go_ret
 exact ⟨rfl, rfl⟩
def intOfU : Value → Int | .int _ q => q | _ => 0
section
variable {α : Type} [Inhabited α] (lt : α → α → Bool)
theorem insInner_go (a j : Nat) (d : Array α) (hj : a < j) (hl : lt d[j]! d[j - 1]! = true) : insInner lt a j d = insInner lt a (j - 1) (swp d j (j - 1)) := by
 obtain ⟨k, rfl⟩ : ∃ k, j = k + 1 := ⟨j - 1, by omega⟩
 rw [insInner]
 simp only [Nat.add_sub_cancel] at hl ⊢
 simp [hj, hl]
theorem insInner_stop (a j : Nat) (d : Array α) (h : j ≤ a ∨ lt d[j]! d[j - 1]! = false) : insInner lt a j d = d := by
 cases j with
 | zero => rw [insInner]
 | succ k =>
  rw [insInner]
  simp only [Nat.add_sub_cancel] at h
  rcases h with h | h
  ·simp [show ¬ k + 1 > a by omega]
  ·simp [h]
theorem insOuter_go (a b i : Nat) (d : Array α) (h : i < b) : insOuter lt a b i d = insOuter lt a b (i + 1) (insInner lt a i d) := by rw [insOuter, if_pos h]
theorem insOuter_stop (a b i : Nat) (d : Array α) (h : ¬ i < b) : insOuter lt a b i d = d := by rw [insOuter, if_neg h]
end
section
variable {α : Type} [Inhabited α] (enc : α → Value)
theorem putRow_drewN (w : World) (m q blk off : Nat) (d : Array α) : (putRow enc (Sort.ahead w m) blk off d).drewN q = putRow enc (Sort.ahead w (m + q)) blk off d := by
 show Sort.ahead (putRow enc (Sort.ahead w m) blk off d) q = _
 rw [putRow_ahead enc w m, ahead_ahead, ← putRow_ahead]
theorem swap_worldA (w : World) (m q blk off : Nat) (d : Array α) (j k : Nat) (hj : j < d.size) (hk : k < d.size) :
  (((putRow enc (Sort.ahead w m) blk off d).drewN q).setCell ⟨blk, off + j, none⟩ (enc d[k]!)).setCell ⟨blk, off + k, none⟩ (enc d[j]!) = putRow enc (Sort.ahead w (m + q)) blk off (swp d j k) := by
 rw [putRow_drewN]
 exact putRow_swp enc _ blk off d j k hj hk
end
theorem insort_any (blk off cap a b : Nat) (d : Array Int) (w : World) (hH : Holds (Value.int .u64) w blk off d) (hab : a ≤ b) (hb : b ≤ d.size) (hsz : d.size < 4611686018427387904) :
  Calls Tryz.prog 153 #[.slice (some ⟨blk, off, none⟩) d.size cap, .int .i64 a, .int .i64 b] w fun e w' =>
   e = .returned (.tuple #[]) ∧ ∃ n, w' = putRow (Value.int .u64) (Sort.ahead w n) blk off (Sort.insertionSort ltInt d a b) := by
 go_enter Tryz.func153, Tryz.ntmps153
 go_wp2
 go_loopw [6] (fun vi wr => ∃ (i n : Nat) (dk : Array Int), vi = .int .i64 i ∧ a < i ∧ i ≤ b + 1 ∧ dk.size = d.size ∧ wr = putRow (Value.int .u64) (Sort.ahead w n) blk off dk ∧
   insOuter ltInt a b i dk = insOuter ltInt a b (a + 1) d) (fun vi _ => b + 1 - (intOfU vi).toNat)
 case atStart => exact ⟨a + 1, 0, d, by go_num, by omega, by omega, rfl, (putRow_self _ _ _ _ _ hH).symm, rfl⟩
 case round =>
  obtain ⟨i, n, dk, rfl, hai, hib, hsk, hwr, hO⟩ := hrel
  have HO : Hid (insOuter ltInt a b i dk = insOuter ltInt a b (a + 1) d) := hO
  clear hO
  go_wp2
  ·
   go_loopw [7] (fun vj wr2 => ∃ (j m : Nat) (dj : Array Int), vj = .int .i64 j ∧ a ≤ j ∧ j ≤ i ∧ dj.size = d.size ∧ wr2 = putRow (Value.int .u64) (Sort.ahead w m) blk off dj ∧
     insInner ltInt a j dj = insInner ltInt a i dk) (fun vj _ => (intOfU vj).toNat)
   case atStart => exact ⟨i, n, dk, rfl, by omega, Nat.le_refl _, hsk, rfl, rfl⟩
   case round =>
    obtain ⟨j, m, dj, rfl, haj, hji, hsj, hw2, hI⟩ := hrel
    have hlt : i < b := by assumption
    obtain ⟨G, hG⟩ : ∃ G : Nat → Int, ∀ t, G t = dj[t]! := ⟨fun t => dj[t]!, fun _ => rfl⟩
    have hcw : ∀ t, t < d.size → wr.cell? ⟨blk, off + t, none⟩ = some (.int .u64 (G t)) := fun t ht => by
     rw [hw2, hG]; exact cell?_putRow _ _ _ _ d dj (holds_ahead _ _ _ _ _ _ hH) hsj t (by omega)
    have hfw : ∀ t, t < d.size → wr.frozen? ⟨blk, off + t, none⟩ = false := fun t ht => by
     rw [hw2, frozen?_putRow]; exact ((holds_ahead _ _ m _ _ _ hH) t ht).2
    have HW : Hid (wr = putRow (Value.int .u64) (Sort.ahead w m) blk off dj) := hw2
    have HG : Hid (∀ t, G t = dj[t]!) := hG
    have HI : Hid (insInner ltInt a j dj = insInner ltInt a i dk) := hI
    clear hw2 hG hI hH
    have out : (j ≤ a ∨ ltInt dj[j]! dj[j - 1]! = false) → ∀ q, ∃ i' n' dk', Value.int .i64 ((i : Int) + 1) = .int .i64 (i' : Nat) ∧ a < i' ∧ i' ≤ b + 1 ∧ dk'.size = d.size ∧
      wr.drewN q = putRow (Value.int .u64) (Sort.ahead w n') blk off dk' ∧ insOuter ltInt a b i' dk' = insOuter ltInt a b (a + 1) d := fun hs q =>
     ⟨i + 1, m + q, dj, by go_num, by omega, by omega, hsj, by rw [HW.out]; exact putRow_drewN _ _ _ _ _ _ _,
      by rw [← HO.out, insOuter_go _ _ _ _ _ hlt, ← HI.out, insInner_stop _ _ _ _ hs]⟩
    have OUT : Hid _ := out
    clear out
    go_wp2
    by_cases hja : a < j
    ·go_quiet (first | (go_at_call 159; refine Calls.quiet_of_same (less_any _ _ _)))
     go_wp2
     ·
      have hl : ltInt (G j) (G (j - 1)) = true := by assumption
      go_region
      all_goals go_wp2
      go_roundw
      case rel =>
       refine ⟨j - 1, m + (nq + 1), swp dj j (j - 1), by congr 1; omega, by omega, by omega, by rw [size_swp]; exact hsj, ?_, ?_⟩
       ·rw [HW.out, HG.out, HG.out]
        exact swap_worldA _ w m (nq + 1) blk off dj j (j - 1) (by omega) (by omega)
       ·rw [← HI.out, insInner_go ltInt a j dj hja (by rw [← HG.out, ← HG.out]; exact hl)]
      case measure => simp [intOfU]; omega
     ·
      have hl : ltInt (G j) (G (j - 1)) = false := by assumption
      go_roundw
      case rel => exact OUT.out (Or.inr (by rw [← HG.out, ← HG.out]; exact hl)) nq
      case measure => simp [intOfU]; omega
    ·go_quiet (first | (go_at_call 159; refine Calls.quiet_of_same (less_any _ _ _)))
     go_wp2
     go_roundw
     case rel => exact OUT.out (Or.inl (by omega)) nq
     case measure => simp [intOfU]; omega
  ·
   have hge : ¬ i < b := by assumption
   go_end0
   exact ⟨rfl, n, by unfold Sort.insertionSort; rw [← HO.out, insOuter_stop _ _ _ _ _ hge]⟩
theorem insort_nil (w : World) : Calls Tryz.prog 153 #[.slice none 0 0, .int .i64 0, .int .i64 0] w fun e w' => e = .returned (.tuple #[]) ∧ w = w' := by
 go_enter Tryz.func153, Tryz.ntmps153
 go_wp2
 go_loopw [6] (fun vi wr => vi = .int .i64 1 ∧ w = wr) (fun vi _ => 0)
 case atStart => exact ⟨rfl, rfl⟩
 case round =>
  obtain ⟨rfl, rfl⟩ := hrel
  go_wp2
  go_end0
  exact ⟨rfl, rfl⟩
def lenMax : Nat := 12
theorem len12_any (n : Nat) (h : n ≤ 12) (w : World) : Calls Tryz.prog 88 #[.int .u64 (n : Int)] w fun e w' => w = w' ∧ ∃ k : Int, e = .returned (.int .i64 k) := by
 have L64 : ∀ (m : Int), m = 0 ∨ m = 1 ∨ m = 2 ∨ m = 3 ∨ m = 4 ∨ m = 5 ∨ m = 6 ∨ m = 7 ∨ m = 8 ∨ m = 9 ∨ m = 10 ∨ m = 11 ∨ m = 12 → Calls Tryz.prog 163 #[.int .u64 m] w fun e w' => w = w' ∧ ∃ k : Int, e = .returned (.int .i64 k) := by
  rintro m (rfl | rfl | rfl | rfl | rfl | rfl | rfl | rfl | rfl | rfl | rfl | rfl | rfl) <;> (
   go_enter Tryz.func163, Tryz.ntmps163
   go_wp2_with fail
   go_ret
   exact ⟨rfl, _, rfl⟩)
 have HL := Lib.hid (L64 (n : Int) (by omega))
 clear L64 h
 go_enter Tryz.func88, Tryz.ntmps88
 go_wp2_with (first
  | (go_at_call 163; (with_reducible refine HL.out.mono ?_); rintro e w1 ⟨rfl, k, rfl⟩)
  | fail)
 go_ret
 exact ⟨rfl, _, rfl⟩
theorem pdq12_any (blk cap : Nat) (lim : Int) (d : Array Int) (w : World) (hH : Holds (Value.int .u64) w blk 0 d) (hsz : d.size ≤ 12) :
  Calls Tryz.prog 87 #[.slice (some ⟨blk, 0, none⟩) d.size cap, .int .i64 0, .int .i64 d.size, .int .i64 lim] w fun e w' =>
   e = .returned (.tuple #[]) ∧ ∃ n, w' = putRow (Value.int .u64) (Sort.ahead w n) blk 0 (Sort.insertionSort ltInt d 0 d.size) := by
 have HI : Hid (Calls Tryz.prog 153 #[.slice (some ⟨blk, 0, none⟩) d.size cap, .int .i64 0, .int .i64 d.size] w fun e w' => e = .returned (.tuple #[]) ∧ ∃ n, w' = putRow (Value.int .u64) (Sort.ahead w n) blk 0 (Sort.insertionSort ltInt d 0 d.size)) := Lib.hid (insort_any blk 0 cap 0 d.size d w hH (Nat.zero_le _) (Nat.le_refl _) (by omega))
 have t1 : decide ((d.size : Int) ≤ 12) = true := decide_eq_true (by omega)
 clear hH
 go_enter Tryz.func87, Tryz.ntmps87
 go_wp2
 go_loopw [1, 2] (fun v v2 wr => v = .int .i64 0 ∧ v2 = .int .i64 d.size ∧ w = wr) (fun _ _ _ => 0)
 case atStart => exact ⟨rfl, rfl, rfl⟩
 case round =>
  obtain ⟨rfl, rfl, rfl⟩ := hrel
  go_wp2_with (first
   | (go_at_call 153; (with_reducible refine HI.out.mono ?_); rintro e w1 ⟨rfl, n, rfl⟩)
   | fail)
  refine bodyPost_ret (results_none rfl _ _ _) rfl ?_
  exact ⟨rfl, n, rfl⟩
theorem pdq_nil (lim : Int) (w : World) :
  Calls Tryz.prog 87 #[.slice none 0 0, .int .i64 0, .int .i64 0, .int .i64 lim] w fun e w' => e = .returned (.tuple #[]) ∧ w = w' := by
 go_enter Tryz.func87, Tryz.ntmps87
 go_wp2
 go_loopw [1, 2] (fun v v2 wr => v = .int .i64 0 ∧ v2 = .int .i64 0 ∧ w = wr) (fun _ _ _ => 0)
 case atStart => exact ⟨rfl, rfl, rfl⟩
 case round =>
  obtain ⟨rfl, rfl, rfl⟩ := hrel
  go_wp2_with (first
   | (go_at_call 153; (with_reducible refine (insort_nil _).mono ?_); rintro e w1 ⟨rfl, rfl⟩)
   | fail)
  refine bodyPost_ret (results_none rfl _ _ _) rfl ?_
  exact ⟨rfl, rfl⟩
def sortI (l : List Int) : List Int := l.mergeSort (fun x y => decide (x ≤ y))
theorem insort_eq (l : List Int) : Sort.insertionSort ltInt l.toArray 0 l.length = (sortI l).toArray := by
 have h := insertionSort_holds (lt := ltInt) swo_ltInt l.toArray 0 l.length (Nat.zero_le _) (by simp)
 have hu := sorted_unique_holds (lt := ltInt) swo_ltInt (fun x y h1 h2 => by simp [ltInt] at h1 h2; omega) l.toArray (Sort.insertionSort ltInt l.toArray 0 l.length) (by simpa using h.1) (by simpa using h.2)
 apply Array.toList_inj.1
 rw [hu]
 unfold sortI
 simp only
 congr 1
 funext x y
 simp only [ltInt]
 by_cases h : y < x
 ·rw [decide_eq_true h, decide_eq_false (by omega)]; rfl
 ·rw [decide_eq_false h, decide_eq_true (by omega)]; rfl
theorem usort_any (blk cap : Nat) (l : List Int) (w : World) (hH : Holds (Value.int .u64) w blk 0 l.toArray) (hsz : l.length ≤ lenMax) :
  Calls Tryz.prog 60 #[.slice (some ⟨blk, 0, none⟩) l.length cap] w fun e w' =>
   e = .returned (.tuple #[]) ∧ ∃ n os, w' = grow (putRow (Value.int .u64) (Sort.ahead w n) blk 0 (sortI l).toArray) os := by
 unfold lenMax at hsz
 have HP := Lib.hid (fun lim => pdq12_any blk cap lim l.toArray w hH (by simpa using hsz))
 have HL := Lib.hid (len12_any l.length hsz)
 simp only [List.size_toArray] at HP
 rw [insort_eq] at HP
 have u1 : IntKind.u64.wrap (l.length : Int) = (l.length : Int) := IntWalk.u64_in _ (by omega)
 clear hH
 go_enter Tryz.func60, Tryz.ntmps60
 go_wp2_with (first
  | (go_at_call 88; (with_reducible refine (HL.out _).mono ?_); rintro e w1 ⟨rfl, k, rfl⟩)
  | (go_at_call 87; (with_reducible refine (HP.out _).mono ?_); rintro e w1 ⟨rfl, n, rfl⟩)
  | fail)
 go_end0
 exact ⟨rfl, n, #[], by rw [grow_empty]⟩
theorem usort_nil (w : World) :
  Calls Tryz.prog 60 #[.slice none 0 0] w fun e w' => e = .returned (.tuple #[]) ∧ w = w' := by
 have HL := Lib.hid (len12_any 0 (by decide))
 go_enter Tryz.func60, Tryz.ntmps60
 go_wp2_with (first
  | (go_at_call 88; refine (HL.out _).mono ?_; rintro e w1 ⟨rfl, k, rfl⟩)
  | (go_at_call 87; (with_reducible refine (pdq_nil _ _).mono ?_); rintro e w1 ⟨rfl, rfl⟩)
  | fail)
 go_end0
 exact ⟨rfl, rfl⟩
end Go.Proofs.YtolgeghdkoodnaaGreatDoor
set_option maxRecDepth 100000
namespace Go.Proofs.YtolgeghdkoodnaaGreatDoor
open Go.RowKit Go.Maps
structure IB where
 win : Nat
 read : Nat
 top : Nat
 size : Nat
 known : Bool
 dom : List Int
 f : Int → UInt8
def iCells (mb : Nat) (o : IB) : Array Value := #[.int .i64 (o.win : Int), .int .u64 (o.read : Int), .int .u64 (o.top : Int), .int .u64 (o.size : Int), .bool o.known, .map (some mb)]
def iF (o : IB) : Int → Value := fun z => .int .u8 ((o.f z).toNat : Int)
structure IBuf (B : Nat) (w : World) (ib mb : Nat) (o : IB) : Prop where
 at0 : B ≤ ib
 at1 : B ≤ mb
 blk : Blk w ib (iCells mb o) 132
 map : IMap 26 .u64 w mb o.dom (iF o)
 doms : ∀ z ∈ o.dom, (o.read : Int) ≤ z ∧ z < (o.top : Int)
 ok : o.win ≤ 100000 ∧ o.read ≤ o.top ∧ o.top ≤ o.read + o.win ∧ o.top ≤ 4611686018427387904 ∧ o.size ≤ 4611686018427387904
def IS (ib mb : Nat) : Nat → Prop := fun k => k = ib ∨ k = mb
theorem IBuf.kept {S : Nat → Prop} {B : Nat} {w w' : World} {ib mb : Nat} {o : IB} (q : IBuf B w ib mb o) (hM : Mod S w w') (hS : ∀ k, IS ib mb k → ¬ S k) : IBuf B w' ib mb o :=
 ⟨q.at0, q.at1, hM.blk q.blk (hS ib (.inl rfl)), q.map.kept hM (hS mb (.inr rfl)), q.doms, q.ok⟩
theorem IBuf.still {B : Nat} {w w' : World} {ib mb : Nat} {o : IB} (q : IBuf B w ib mb o) (hM : Mod (fun _ => False) w w') : IBuf B w' ib mb o := q.kept hM (fun _ _ h => h)
theorem IBuf.lt {B : Nat} {w : World} {ib mb : Nat} {o : IB} (q : IBuf B w ib mb o) : ∀ k, IS ib mb k → B ≤ k ∧ k < w.heap.size := by
 rintro k (rfl | rfl)
 ·exact ⟨q.at0, q.blk.lt⟩
 ·exact ⟨q.at1, q.map.lt⟩
theorem nodup_range : ∀ (n : Nat) (a : Int) (dom : List Int), dom.Nodup → (∀ z ∈ dom, a ≤ z ∧ z < a + (n : Int)) → dom.length ≤ n
 | 0, a, dom, _, h => by
  cases dom with
  | nil => simp
  | cons z l => have := h z (by simp); omega
 | n + 1, a, dom, hd, h => by
  have ih := nodup_range n a (dom.filter (fun y => !decide (y = a + (n : Int)))) (hd.filter _) (fun z hz => by
   simp only [List.mem_filter, Bool.not_eq_true', decide_eq_false_iff_not] at hz
   have := h z hz.1
   omega)
  have e := nodup_strike (a + (n : Int)) hd
  split at e <;> omega
theorem IBuf.size {B : Nat} {w : World} {ib mb : Nat} {o : IB} (q : IBuf B w ib mb o) : o.dom.length ≤ 100000 := by
 have := nodup_range (o.top - o.read) (o.read : Int) o.dom q.map.nodup (fun z hz => by have := q.doms z hz; have := q.ok; omega)
 have := q.ok
 omega
theorem itop_nil (w : World) : Calls Tryz.prog 78 #[.pointer none] w fun e w' => w = w' ∧ e = .returned (.int .u64 0) := by
 go_enter Tryz.func78, Tryz.ntmps78
 go_wp2_with fail
 go_ret
 exact ⟨rfl, rfl⟩
theorem itop_any {B : Nat} {w : World} {ib mb : Nat} {o : IB} (q : IBuf B w ib mb o) : Calls Tryz.prog 78 #[.pointer (some ⟨ib, 0, none⟩)] w fun e w' => w = w' ∧ e = .returned (.int .u64 (o.top : Int)) := by
 have c2 : w.cell? ⟨ib, 2, none⟩ = some (.int .u64 (o.top : Int)) := q.blk.cellAt 2 rfl
 clear q
 go_enter Tryz.func78, Tryz.ntmps78
 go_wp2_with fail
 go_ret
 exact ⟨rfl, rfl⟩
theorem iheld_nil (w : World) : Calls Tryz.prog 51 #[.pointer none] w fun e w' => w = w' ∧ e = .returned (.int .i64 0) := by
 go_enter Tryz.func51, Tryz.ntmps51
 go_wp2_with fail
 go_ret
 exact ⟨rfl, rfl⟩
theorem iheld_any {B : Nat} {w : World} {ib mb : Nat} {o : IB} (q : IBuf B w ib mb o) : Calls Tryz.prog 51 #[.pointer (some ⟨ib, 0, none⟩)] w fun e w' => w = w' ∧ e = .returned (.int .i64 (o.dom.length : Int)) := by
 have c2 : w.cell? ⟨ib, 5, none⟩ = some (.map (some mb)) := q.blk.cellAt 5 rfl
 have hlen := fun ty => q.map.len (e := 5) (t := 130) Tryz.underlying130 ty
 clear q
 go_enter Tryz.func51, Tryz.ntmps51
 go_wp2_with fail
 go_ret
 exact ⟨rfl, rfl⟩
end Go.Proofs.YtolgeghdkoodnaaGreatDoor
set_option maxRecDepth 100000
namespace Go.Proofs.YtolgeghdkoodnaaGreatDoor
open Go.RowKit Go.Maps
def newI (n : Nat) : IB := ⟨n, 0, 0, 0, false, [], fun _ => 0⟩
def INew (w w' : World) (n : Nat) (e : Ending) : Prop := ∃ ib mb, e = .returned (.pointer (some ⟨ib, 0, none⟩)) ∧ IBuf w.heap.size w' ib mb (newI n) ∧ Mod (fun _ => False) w w'
theorem inew_any (w : World) (n : Nat) (hn : (n : Int) ≤ 100000) :
  Calls Tryz.prog 58 #[.int .i64 (n : Int)] w fun e w' => INew w w' n e := by
 have hmm := @run_makeMap Tryz.prog
 have HM : Hid (IMap 26 .u64 (w.alloc (.map #[] 0)) w.heap.size [] (iF (newI n))) := Lib.hid (IMap.made _ _ _ _)
 have hb := Blk.new (w.alloc (.map #[] 0)) (iCells w.heap.size (newI n)) 132
 rw [World.size_alloc] at hb
 have HB := Lib.hid hb
 clear hb
 have HMM : Hid (Mod (fun _ => False) (w.alloc (.map #[] 0)) ((w.alloc (.map #[] 0)).alloc (.cells (iCells w.heap.size (newI n)) 132)) ∧ Mod (fun _ => False) w (w.alloc (.map #[] 0))) := Lib.hid ⟨(Mod.refl _ _).alloc _, (Mod.refl _ _).alloc _⟩
 have n0 : (0 : Int) ≤ (n : Int) := by omega
 have HN := Lib.hid hn
 go_enter Tryz.func58, Tryz.ntmps58
 go_wp2_with fail
 go_ret
 exact ⟨w.heap.size + 1, w.heap.size, rfl, ⟨by omega, Nat.le_refl _, HB.out, HM.out.kept HMM.out.1 (fun e => e), by simp [newI], by have := HN.out; simp [newI]; omega⟩, HMM.out.2.trans HMM.out.1⟩
theorem ilimit_any {B : Nat} {w : World} {ib mb : Nat} {o : IB} (q : IBuf B w ib mb o) : Calls Tryz.prog 68 #[.pointer (some ⟨ib, 0, none⟩)] w fun e w' => e = .returned (.int .u64 (((o.read + o.win : Nat)) : Int)) ∧ Mod (fun _ => False) w w' := by
 have c0 : w.cell? ⟨ib, 0, none⟩ = some (.int .i64 (o.win : Int)) := q.blk.cellAt 0 rfl
 have c1 : w.cell? ⟨ib, 1, none⟩ = some (.int .u64 (o.read : Int)) := q.blk.cellAt 1 rfl
 have h1 : IntKind.u64.wrap (o.win : Int) = (o.win : Int) := IntWalk.u64_in _ (by have := q.ok; omega)
 have h2 : IntKind.u64.wrap ((o.read : Int) + (o.win : Int)) = ((o.read + o.win : Nat) : Int) := by rw [IntWalk.u64_in _ (by have := q.ok; omega)]; omega
 clear q
 generalize o.read + o.win = R at *
 generalize o.read = r at *
 generalize o.win = n at *
 have HM : Hid (Mod (fun _ => False) w w.drew) := Lib.hid (Mod.refl _ _).drew
 go_enter Tryz.func68, Tryz.ntmps68
 go_upto_region 3 with fail
 go_region_held (fun w' => w'.cell? ⟨ib, 0, none⟩ = some (.int .i64 (n : Int)) ∧ w'.cell? ⟨ib, 1, none⟩ = some (.int .u64 (r : Int))) (go_keep) (fail)
 go_wp2_with fail
 go_ret
 exact ⟨rfl, HM.out⟩
end Go.Proofs.YtolgeghdkoodnaaGreatDoor
set_option maxRecDepth 100000
namespace Go.Proofs.YtolgeghdkoodnaaGreatDoor
open Go.RowKit Go.Maps
def doneI (o : IB) : Bool := o.known && decide (o.read = o.size)
theorem idone_any {B : Nat} {w : World} {ib mb : Nat} {o : IB} (q : IBuf B w ib mb o) : Calls Tryz.prog 50 #[.pointer (some ⟨ib, 0, none⟩)] w fun e w' => e = .returned (.bool (doneI o)) ∧ Mod (fun _ => False) w w' := by
 have c1 : w.cell? ⟨ib, 1, none⟩ = some (.int .u64 (o.read : Int)) := q.blk.cellAt 1 rfl
 have c3 : w.cell? ⟨ib, 3, none⟩ = some (.int .u64 (o.size : Int)) := q.blk.cellAt 3 rfl
 have c4 : w.cell? ⟨ib, 4, none⟩ = some (.bool o.known) := q.blk.cellAt 4 rfl
 have HM : Hid (Mod (fun _ => False) w w.drew) := Lib.hid (Mod.refl _ _).drew
 have d1 := HM.out.cellAt c1 (fun e => e)
 have d3 := HM.out.cellAt c3 (fun e => e)
 have d4 := HM.out.cellAt c4 (fun e => e)
 obtain ⟨R, hR⟩ : ∃ R, R = doneI o := ⟨_, rfl⟩
 rw [← hR]
 have hd : R = (o.known && ((o.read : Int) == (o.size : Int))) := by
  rw [hR]
  unfold doneI
  congr 1
  rw [Bool.eq_iff_iff]
  simp
  omega
 have HD := Lib.hid hd
 clear q hR hd c1 c3 c4
 generalize o.read = r at *
 generalize o.size = z at *
 generalize o.known = k at *
 cases k with
 | false =>
  go_enter Tryz.func50, Tryz.ntmps50
  go_upto_region 1 with fail
  refine wp_region_held_drew (S := fun X => w.drew = X) (by kernel_rfl) rfl (fun hS => ?_)
  generalize w.drew = Y at *
  refine' tk 0 _ (some 3) rfl rfl (by kernel_rfl) (fun _ _ _ => id) (Or.inl ⟨by rfl, fun X hX => ?_⟩) hS ?_; rotate_left
  ·go_simp; exact rfl
  (try go_frame); refine' tk 1 _ (some 4) rfl rfl (by kernel_rfl) (fun _ _ _ => id) (Or.inl ⟨by rfl, fun X hX => ?_⟩) hS ?_; rotate_left
  ·go_simp; exact rfl
  (try go_frame); refine' tk 2 _ (some 5) rfl rfl (by kernel_rfl) (fun _ _ _ => id) (Or.inl ⟨by rfl, fun X hX => ?_⟩) hS ?_; rotate_left
  ·go_simp; exact rfl
  (try go_frame); refine' tk 3 _ (some 6) rfl rfl (by kernel_rfl) (fun _ _ _ => id) (Or.inl ⟨by rfl, fun X hX => ?_⟩) hS ?_; rotate_left
  ·go_simp; exact rfl
  (try go_frame); refine' tk 4 _ (some 7) rfl rfl (by kernel_rfl) (fun _ _ _ => id) (Or.inl ⟨by rfl, fun X hX => ?_⟩) hS ?_; rotate_left
  ·go_simp; exact rfl
  (try go_frame); refine' tk 5 _ (some 8) rfl rfl (by kernel_rfl) (fun _ _ _ => id) (Or.inl ⟨by rfl, fun X hX => ?_⟩) hS ?_; rotate_left
  ·go_simp; exact rfl
  (try go_frame); refine' tk 6 _ (some 9) rfl rfl (by kernel_rfl) (fun _ _ _ => id) (Or.inl ⟨by rfl, fun X hX => ?_⟩) hS ?_; rotate_left
  ·have hX := (show Y = X from hX); subst hX; go_simp; exact rfl
  (try go_frame); refine' tk 7 _ (some 10) rfl rfl (by kernel_rfl) (fun _ _ _ => id) (Or.inl ⟨by rfl, fun X hX => ?_⟩) hS ?_; rotate_left
  ·go_simp; exact rfl
  (try go_frame); refine' tk 8 _ (some 11) rfl rfl (by kernel_rfl) (fun _ _ _ => id) (Or.inl ⟨by rfl, fun X hX => ?_⟩) hS ?_; rotate_left
  ·go_simp; exact rfl
  (try go_frame); refine tk 9 undef (some 12) rfl rfl (by kernel_rfl) (fun _ _ _ => id) (Or.inr ⟨by rfl, rfl⟩) hS ?_
  (try go_frame); refine tk 10 undef (some 13) rfl rfl (by kernel_rfl) (fun _ _ _ => id) (Or.inr ⟨by rfl, rfl⟩) hS ?_
  (try go_frame); refine tk 11 undef (some 14) rfl rfl (by kernel_rfl) (fun _ _ _ => id) (Or.inr ⟨by rfl, rfl⟩) hS ?_
  (try go_frame); refine tk 12 undef (some 15) rfl rfl (by kernel_rfl) (fun _ _ _ => id) (Or.inr ⟨by rfl, rfl⟩) hS ?_
  (try go_frame); refine tk 13 undef (some 16) rfl rfl (by kernel_rfl) (fun _ _ _ => id) (Or.inr ⟨by rfl, rfl⟩) hS ?_
  (try go_frame); refine tk 14 undef (some 17) rfl rfl (by kernel_rfl) (fun _ _ _ => id) (Or.inr ⟨by rfl, rfl⟩) hS ?_
  (try go_frame); refine tk 15 undef (some 18) rfl rfl (by kernel_rfl) (fun _ _ _ => id) (Or.inr ⟨by rfl, rfl⟩) hS ?_
  (try go_frame); refine tk 16 undef (some 19) rfl rfl (by kernel_rfl) (fun _ _ _ => id) (Or.inr ⟨by rfl, rfl⟩) hS ?_
  (try go_frame); refine tk 17 undef (some 20) rfl rfl (by kernel_rfl) (fun _ _ _ => id) (Or.inr ⟨by rfl, rfl⟩) hS ?_
  (try go_frame); refine' tk 18 _ (some 21) rfl rfl (by kernel_rfl) (fun _ _ _ => id) (Or.inl ⟨by rfl, fun X hX => ?_⟩) hS ?_; rotate_left
  ·go_simp; exact rfl
  (try go_frame); refine' tk 19 _ (some 2) rfl rfl (by kernel_rfl) (fun _ _ _ => id) (Or.inl ⟨by rfl, fun X hX => ?_⟩) hS ?_; rotate_left
  ·go_simp; exact rfl
  (try go_frame); refine wpAnyH_done (by kernel_rfl) ?_ _
  go_wp2_with fail
  go_ret
  exact ⟨by rw [HD.out]; first | rfl | simp, HM.out⟩
 | true =>
  go_enter Tryz.func50, Tryz.ntmps50
  go_upto_region 1 with fail
  refine wp_region_held_drew (S := fun X => w.drew = X) (by kernel_rfl) rfl (fun hS => ?_)
  generalize w.drew = Y at *
  refine' tk 0 _ (some 3) rfl rfl (by kernel_rfl) (fun _ _ _ => id) (Or.inl ⟨by rfl, fun X hX => ?_⟩) hS ?_; rotate_left
  ·go_simp; exact rfl
  (try go_frame); refine' tk 1 _ (some 4) rfl rfl (by kernel_rfl) (fun _ _ _ => id) (Or.inl ⟨by rfl, fun X hX => ?_⟩) hS ?_; rotate_left
  ·go_simp; exact rfl
  (try go_frame); refine' tk 2 _ (some 5) rfl rfl (by kernel_rfl) (fun _ _ _ => id) (Or.inl ⟨by rfl, fun X hX => ?_⟩) hS ?_; rotate_left
  ·go_simp; exact rfl
  (try go_frame); refine' tk 3 _ (some 6) rfl rfl (by kernel_rfl) (fun _ _ _ => id) (Or.inl ⟨by rfl, fun X hX => ?_⟩) hS ?_; rotate_left
  ·go_simp; exact rfl
  (try go_frame); refine' tk 4 _ (some 7) rfl rfl (by kernel_rfl) (fun _ _ _ => id) (Or.inl ⟨by rfl, fun X hX => ?_⟩) hS ?_; rotate_left
  ·go_simp; exact rfl
  (try go_frame); refine' tk 5 _ (some 8) rfl rfl (by kernel_rfl) (fun _ _ _ => id) (Or.inl ⟨by rfl, fun X hX => ?_⟩) hS ?_; rotate_left
  ·go_simp; exact rfl
  (try go_frame); refine' tk 6 _ (some 9) rfl rfl (by kernel_rfl) (fun _ _ _ => id) (Or.inl ⟨by rfl, fun X hX => ?_⟩) hS ?_; rotate_left
  ·have hX := (show Y = X from hX); subst hX; go_simp; exact rfl
  (try go_frame); refine' tk 7 _ (some 10) rfl rfl (by kernel_rfl) (fun _ _ _ => id) (Or.inl ⟨by rfl, fun X hX => ?_⟩) hS ?_; rotate_left
  ·go_simp; exact rfl
  (try go_frame); refine' tk 8 _ (some 11) rfl rfl (by kernel_rfl) (fun _ _ _ => id) (Or.inl ⟨by rfl, fun X hX => ?_⟩) hS ?_; rotate_left
  ·go_simp; exact rfl
  (try go_frame); refine' tk 9 _ (some 12) rfl rfl (by kernel_rfl) (fun _ _ _ => id) (Or.inl ⟨by rfl, fun X hX => ?_⟩) hS ?_; rotate_left
  ·go_simp; exact rfl
  (try go_frame); refine' tk 10 _ (some 13) rfl rfl (by kernel_rfl) (fun _ _ _ => id) (Or.inl ⟨by rfl, fun X hX => ?_⟩) hS ?_; rotate_left
  ·go_simp; exact rfl
  (try go_frame); refine' tk 11 _ (some 14) rfl rfl (by kernel_rfl) (fun _ _ _ => id) (Or.inl ⟨by rfl, fun X hX => ?_⟩) hS ?_; rotate_left
  ·go_simp; exact rfl
  (try go_frame); refine' tk 12 _ (some 15) rfl rfl (by kernel_rfl) (fun _ _ _ => id) (Or.inl ⟨by rfl, fun X hX => ?_⟩) hS ?_; rotate_left
  ·have hX := (show Y = X from hX); subst hX; go_simp; exact rfl
  (try go_frame); refine' tk 13 _ (some 16) rfl rfl (by kernel_rfl) (fun _ _ _ => id) (Or.inl ⟨by rfl, fun X hX => ?_⟩) hS ?_; rotate_left
  ·go_simp; exact rfl
  (try go_frame); refine' tk 14 _ (some 17) rfl rfl (by kernel_rfl) (fun _ _ _ => id) (Or.inl ⟨by rfl, fun X hX => ?_⟩) hS ?_; rotate_left
  ·go_simp; exact rfl
  (try go_frame); refine' tk 15 _ (some 18) rfl rfl (by kernel_rfl) (fun _ _ _ => id) (Or.inl ⟨by rfl, fun X hX => ?_⟩) hS ?_; rotate_left
  ·go_simp; exact rfl
  (try go_frame); refine' tk 16 _ (some 19) rfl rfl (by kernel_rfl) (fun _ _ _ => id) (Or.inl ⟨by rfl, fun X hX => ?_⟩) hS ?_; rotate_left
  ·have hX := (show Y = X from hX); subst hX; go_simp; exact rfl
  (try go_frame); refine tk 17 (.bool ((r : Int) == (z : Int))) (some 20) rfl rfl (by kernel_rfl) (fun _ _ _ => id) (Or.inl ⟨by rfl, fun X hX => ?_⟩) hS ?_
  ·go_simp
  (try go_frame); refine' tk 18 _ (some 21) rfl rfl (by kernel_rfl) (fun _ _ _ => id) (Or.inl ⟨by rfl, fun X hX => ?_⟩) hS ?_; rotate_left
  ·go_simp; exact rfl
  (try go_frame); refine' tk 19 _ (some 2) rfl rfl (by kernel_rfl) (fun _ _ _ => id) (Or.inl ⟨by rfl, fun X hX => ?_⟩) hS ?_; rotate_left
  ·go_simp; exact rfl
  (try go_frame); refine wpAnyH_done (by kernel_rfl) ?_ _
  go_wp2_with fail
  go_ret
  exact ⟨by rw [HD.out]; first | rfl | simp, HM.out⟩
end Go.Proofs.YtolgeghdkoodnaaGreatDoor
set_option maxRecDepth 100000
namespace Go.Proofs.YtolgeghdkoodnaaGreatDoor
open Go.RowKit Go.Maps
def stepI (read at' : Nat) (c : UInt8) (p : List Int × (Int → UInt8)) : List Int × (Int → UInt8) :=
 if (at' : Int) ∈ p.1 ∨ at' < read then p else (p.1 ++ [(at' : Int)], fun z => if z = (at' : Int) then c else p.2 z)
def fillK (read off : Nat) (data : List UInt8) (p : List Int × (Int → UInt8)) : Nat → List Int × (Int → UInt8)
 | 0 => p
 | k + 1 => match data[k]? with
  | some c => stepI read (off + k) c (fillK read off data p k)
  | none => fillK read off data p k
theorem fillK_mem {read off : Nat} {data : List UInt8} {p : List Int × (Int → UInt8)} {z : Int} : ∀ k, k ≤ data.length → (z ∈ (fillK read off data p k).1 ↔ z ∈ p.1 ∨ ((read : Int) ≤ z ∧ (off : Int) ≤ z ∧ z < (off : Int) + (k : Int)))
 | 0, _ => by
  unfold fillK
  constructor
  ·exact .inl
  ·rintro (h | h)
   ·exact h
   ·omega
 | k + 1, hk => by
  have ih := fillK_mem (read := read) (off := off) (data := data) (p := p) (z := z) k (by omega)
  have hx : data[k]? = some data[k] := List.getElem?_eq_getElem (by omega)
  unfold fillK
  rw [hx]
  dsimp only
  unfold stepI
  split
  ·rename_i h
   rw [ih]
   constructor
   ·rintro (h | h)
    ·exact .inl h
    ·exact .inr (by omega)
   ·rintro (h1 | h1)
    ·exact .inl h1
    ·by_cases e : z = ((off + k : Nat) : Int)
     ·subst e
      rcases h with h | h
      ·have := (fillK_mem (read := read) (off := off) (data := data) (p := p) (z := ((off + k : Nat) : Int)) k (by omega)).1 h
       rcases this with h3 | h3
       ·exact .inl h3
       ·omega
      ·omega
     ·exact .inr (by omega)
  ·rename_i h
   have h' : ¬ off + k < read := fun e => h (.inr e)
   simp only [List.mem_append, List.mem_singleton]
   rw [ih]
   constructor
   ·rintro ((h | h) | h)
    ·exact .inl h
    ·exact .inr (by omega)
    ·exact .inr (by omega)
   ·rintro (h1 | h1)
    ·exact .inl (.inl h1)
    ·by_cases e : z = ((off + k : Nat) : Int)
     ·exact .inr e
     ·exact .inl (.inr (by omega))
def badFin (o : IB) (E : Nat) (last : Bool) : Bool := (o.known && (decide (o.size < E) || (last && decide (E ≠ o.size)))) || (last && decide (E < o.top))
def putErr (o : IB) (off n : Nat) (last : Bool) : Int := if o.read + o.win < off + n then 9 else if badFin o (off + n) last = true then 10 else 0
def putI (o : IB) (off : Nat) (data : List UInt8) (last : Bool) : IB :=
 if putErr o off data.length last = 0 then
  { o with top := max o.top (off + data.length), size := if last then off + data.length else o.size, known := o.known || last, dom := (fillK o.read off data (o.dom, o.f) data.length).1, f := (fillK o.read off data (o.dom, o.f) data.length).2 }
 else o
def IC (B : Nat) (w w' : World) (ib mb : Nat) (o' : IB) : Prop := IBuf B w' ib mb o' ∧ Mod (IS ib mb) w w'
def PutR (B : Nat) (w w' : World) (ib mb : Nat) (o : IB) (off : Nat) (data : List UInt8) (last : Bool) (e : Ending) : Prop :=
 e = .returned (.int .i64 (putErr o off data.length last)) ∧ IC B w w' ib mb (putI o off data last)
theorem wpList_skipr {P : Program} {w w' : World} {ops : Array Oper} {rest : List Oper} {o : Oper} {a : Act} {Q : Exit → Act → World → Prop} (hg : o.guard = none) (hr : (execOp a.eval o).run P w = .ok .skip w') (h : wpList P ops Q rest (a.put o.dst undef) w') :
  wpList P ops Q (o :: rest) a w := by
 refine wpList_plain hg fun K hK => ?_
 unfold Oper.wp
 rw [hr]
 exact hK _ _ h
theorem exec_iput {w w' : World} {a : Act} {op : Oper} {m x v : Operand} {t : TypeId} (ho : op.op = .mapUpdate t m x v) {mv k e : Value} (hm : a.eval m = mv) (hx : a.eval x = k) (hv : a.eval v = e) (hr : (Instr.mapUpdate t mv k e).run Tryz.prog w = .ok () w') : (execOp a.eval op).run Tryz.prog w = .ok .skip w' := by
 unfold execOp
 simp only [ho, hm, hx, hv, Sem.run_bind, Sem.run_pure, Result.andThen_ok, hr]
theorem zero_u8 (w : World) : (zeroValue 5).run Tryz.prog w = .ok (.int .u8 0) w := by kernel_rfl
theorem putF_fill (z : Int) (c : UInt8) (f : Int → UInt8) : putF z (.int .u8 (c.toNat : Int)) (fun y => .int .u8 ((f y).toNat : Int)) = fun y => .int .u8 (((if y = z then c else f y : UInt8).toNat : Nat) : Int) := by
 funext y
 unfold putF
 split <;> rfl
end Go.Proofs.YtolgeghdkoodnaaGreatDoor
set_option maxRecDepth 100000
namespace Go.Proofs.YtolgeghdkoodnaaGreatDoor
open Go.RowKit Go.Maps
theorem IMap.cellNe {K : TypeId} {q : IntKind} {w : World} {mb b i : Nat} {dom : List Int} {f : Int → Value} {v : Value} (h : IMap K q w mb dom f) (hc : w.cell? ⟨b, i, none⟩ = some v) : b ≠ mb := by
 obtain ⟨D, ⟨es, clock, h1, _⟩, _⟩ := h
 rintro rfl
 simp [World.cell?, h1] at hc
theorem u64_wf {n : Nat} (h : (n : Int) ≤ 9223372036854775807) : (Lit.int .u64 (n : Int)).wf = true := by
 have e1 : IntKind.min .u64 = 0 := rfl
 have e2 : IntKind.max .u64 = 18446744073709551615 := rfl
 show (decide (IntKind.min .u64 ≤ (n : Int)) && decide ((n : Int) ≤ IntKind.max .u64)) = true
 rw [e1, e2, decide_eq_true (by omega), decide_eq_true (by omega)]
 rfl
theorem byts_ne {K : TypeId} {q : IntKind} {w : World} {mb : Nat} {dom : List Int} {f : Int → Value} {v : Value} {l : List UInt8} (h : IMap K q w mb dom f) (hb : Byts w v l) : l.map bv ≠ [] → ∀ g, blockOf v = some g → ¬ g = mb := by
 intro hx g hg
 obtain ⟨b, off, cap, rfl, -, -, hc⟩ := Sl.addr hb hx
 simp only [blockOf, Option.some.injEq] at hg
 subst hg
 cases l with
 | nil => exact absurd rfl hx
 | cons c l => exact h.cellNe (hc 0 _ rfl)
structure PutL (w wr : World) (ib mb : Nat) (dv : Value) (o : IB) (off : Nat) (data : List UInt8) (k : Nat) : Prop where
 blk : Blk wr ib (iCells mb o) 132
 map : IMap 26 .u64 wr mb (fillK o.read off data (o.dom, o.f) k).1 (fun z => .int .u8 ((((fillK o.read off data (o.dom, o.f) k).2 z).toNat : Nat) : Int))
 mod : Mod (IS ib mb) w wr
 byts : Byts wr dv data
set_option maxHeartbeats 2000000 in
theorem iput_any {B : Nat} {w : World} {ib mb : Nat} {o : IB} {dv : Value} {data : List UInt8} (q : IBuf B w ib mb o) (hd : Byts w dv data) (off : Nat) (last : Bool) (hb : ((off + data.length : Nat) : Int) ≤ 4611686018427387903) :
  Calls Tryz.prog 150 #[.pointer (some ⟨ib, 0, none⟩), .int .u64 (off : Int), dv, .bool last] w fun e w' => PutR B w w' ib mb o off data last e := by
 obtain ⟨da, dc, rfl, hdc, hdm, -⟩ := Sl.val hd
 obtain ⟨E, hE⟩ : ∃ E, E = off + data.length := ⟨_, rfl⟩
 obtain ⟨PE, hPE⟩ : ∃ PE, PE = putErr o off data.length last := ⟨_, rfl⟩
 have HQ := Lib.hid q
 have HD := Lib.hid hd
 have HP9 : Hid (o.read + o.win < E → PE = 9 ∧ putI o off data last = o) := Lib.hid (fun h => by
  have e : putErr o off data.length last = 9 := by unfold putErr; rw [← hE, if_pos h]
  exact ⟨by rw [hPE, e], by unfold putI; rw [e, if_neg (by decide)]⟩)
 have HP10 : Hid (¬ o.read + o.win < E → badFin o E last = true → PE = 10 ∧ putI o off data last = o) := Lib.hid (fun h h2 => by
  have e : putErr o off data.length last = 10 := by unfold putErr; rw [← hE, if_neg h, if_pos h2]
  exact ⟨by rw [hPE, e], by unfold putI; rw [e, if_neg (by decide)]⟩)
 have HP0 : Hid (¬ o.read + o.win < E → badFin o E last = false → PE = 0 ∧ putI o off data last = { o with top := max o.top E, size := if last then E else o.size, known := o.known || last, dom := (fillK o.read off data (o.dom, o.f) data.length).1, f := (fillK o.read off data (o.dom, o.f) data.length).2 }) := Lib.hid (fun h h2 => by
  have e : putErr o off data.length last = 0 := by unfold putErr; rw [← hE, if_neg h, if_neg (by rw [h2]; simp)]
  exact ⟨by rw [hPE, e], by unfold putI; rw [e, if_pos rfl, hE]⟩)
 have hok := q.ok
 have HOK := Lib.hid (And.intro hok (And.intro hE (And.intro hb hdc)))
 unfold PutR
 rw [← hPE]
 have n0 : (0 : Int) ≤ (off : Int) := by omega
 have n1 : (data.length : Int) ≤ 4611686018427387903 := by omega
 have n2 : IntKind.u64.wrap (data.length : Int) = (data.length : Int) := IntWalk.u64_in _ (by omega)
 have n3 : IntKind.u64.wrap ((off : Int) + (data.length : Int)) = (E : Int) := by rw [IntWalk.u64_in _ (by omega)]; omega
 have n4 : decide ((4611686018427387903 : Int) < (off : Int)) = false := decide_eq_false (by omega)
 have n5 : decide ((4611686018427387903 : Int) < (E : Int)) = false := decide_eq_false (by omega)
 have HLim := Lib.hid (ilimit_any q)
 clear q hd hdc hdm hok hE hPE hb
 obtain ⟨L, hL⟩ : ∃ L, L = o.read + o.win := ⟨_, rfl⟩
 rw [← hL] at HLim HP9 HP10 HP0
 have HL := Lib.hid hL
 clear hL
 generalize hzE : (E : Int) = zE at *
 generalize hzL : (L : Int) = zL at *
 have HZ := Lib.hid (And.intro hzE hzL)
 clear hzE hzL
 generalize hdn : data.length = n at *
 have HDN := Lib.hid hdn
 clear hdn
 go_enter Tryz.func150, Tryz.ntmps150
 go_upto_block 0 with fail
 clear n2 n3
 go_cut [] (fun wx => Hid (Mod (fun _ => False) w wx ∧ ¬ L < E ∧ badFin o E last = false))
 case first =>
  by_cases hfl : L < E
  ·have t1 : decide (zL < zE) = true := decide_eq_true (by have := HZ.out; omega)
   have HF := Lib.hid hfl
   clear hfl
   go_wp2_with (first
    | (go_at_call 68; (with_reducible refine HLim.out.mono ?_); rintro e w1 ⟨rfl, hM1⟩; have HM1 := Lib.hid hM1; clear hM1)
    | fail)
   go_ret
   rw [(HP9.out HF.out).1, (HP9.out HF.out).2]
   exact ⟨rfl, HQ.out.still HM1.out, HM1.out.mono (fun _ _ h => h.elim)⟩
  ·have t1 : decide (zL < zE) = false := decide_eq_false (by have := HZ.out; omega)
   have HF := Lib.hid hfl
   clear hfl
   have HCE : Hid (∀ wx, Mod (fun _ => False) w wx → wx.cell? ⟨ib, 2, none⟩ = some (.int .u64 (o.top : Int)) ∧ wx.cell? ⟨ib, 3, none⟩ = some (.int .u64 (o.size : Int)) ∧ wx.cell? ⟨ib, 4, none⟩ = some (.bool o.known)) := Lib.hid (fun wx h => ⟨(HQ.out.still h).blk.cellAt 2 rfl, (HQ.out.still h).blk.cellAt 3 rfl, (HQ.out.still h).blk.cellAt 4 rfl⟩)
   have HBF : Hid (badFin o E last = ((o.known && (decide ((o.size : Int) < zE) || (last && (zE != (o.size : Int))))) || (last && decide (zE < (o.top : Int))))) := Lib.hid (by
    have a1 : decide ((o.size : Int) < (E : Int)) = decide (o.size < E) := by rw [Bool.eq_iff_iff]; simp
    have a2 : ((E : Int) != (o.size : Int)) = decide (E ≠ o.size) := by rw [Bool.eq_iff_iff]; simp; omega
    have a3 : decide ((E : Int) < (o.top : Int)) = decide (E < o.top) := by rw [Bool.eq_iff_iff]; simp
    rw [← HZ.out.1, a1, a2, a3]
    rfl)
   generalize o.known = kn at HCE HBF
   generalize (o.size : Int) = zs at HCE HBF
   generalize (o.top : Int) = zt at HCE HBF
   by_cases h1 : zs < zE
   ·have t2 : decide (zs < zE) = true := decide_eq_true h1
    rw [t2] at HBF
    clear h1
    by_cases h3 : zE < zt
    all_goals (
     first
      | (have t3 : decide (zE < zt) = true := decide_eq_true h3)
      | (have t3 : decide (zE < zt) = false := decide_eq_false h3)
     rw [t3] at HBF
     clear h3
     cases kn <;> cases last <;> (
      go_wp2_with (first
       | (go_at_call 68; (with_reducible refine HLim.out.mono ?_); rintro e w1 ⟨rfl, hM1⟩; have HM1 := Lib.hid hM1; obtain ⟨c2, c3, c4⟩ := HCE.out _ hM1; clear hM1)
       | fail)
      first
       | (go_ret; rw [(HP10.out HF.out (by rw [HBF.out]; rfl)).1, (HP10.out HF.out (by rw [HBF.out]; rfl)).2]; exact ⟨rfl, HQ.out.still HM1.out, HM1.out.mono (fun _ _ h => h.elim)⟩)
       | (go_meet; exact Lib.hid ⟨HM1.out, HF.out, by rw [HBF.out]; rfl⟩)))
   ·have t2 : decide (zs < zE) = false := decide_eq_false h1
    rw [t2] at HBF
    by_cases h3 : zE < zt
    all_goals (
     first
      | (have t3 : decide (zE < zt) = true := decide_eq_true h3)
      | (have t3 : decide (zE < zt) = false := decide_eq_false h3)
     rw [t3] at HBF
     clear h3
     by_cases h4 : zE = zs
     all_goals (
      first
       | (have t4 : (zE != zs) = false := by simpa using h4)
       | (have t4 : (zE != zs) = true := by simpa using h4)
      rw [t4] at HBF
      clear h4
      cases kn <;> cases last <;> (
       go_wp2_with (first
        | (go_at_call 68; (with_reducible refine HLim.out.mono ?_); rintro e w1 ⟨rfl, hM1⟩; have HM1 := Lib.hid hM1; obtain ⟨c2, c3, c4⟩ := HCE.out _ hM1; clear hM1)
        | fail)
       first
        | (go_ret; rw [(HP10.out HF.out (by rw [HBF.out]; rfl)).1, (HP10.out HF.out (by rw [HBF.out]; rfl)).2]; exact ⟨rfl, HQ.out.still HM1.out, HM1.out.mono (fun _ _ h => h.elim)⟩)
        | (go_meet; exact Lib.hid ⟨HM1.out, HF.out, by rw [HBF.out]; rfl⟩))))
 case rest =>
  have HC := hcut
  clear hcut
  have HFIN := Lib.hid (HP0.out HC.out.2.1 HC.out.2.2)
  have HQ1 := Lib.hid (HQ.out.still HC.out.1)
  have HBW : Hid (E ≤ o.read + o.win) := Lib.hid (by have := HC.out.2.1; have := HL.out; omega)
  go_wp2_with fail
  go_loopw [67] (fun i wr => ∃ k : Nat, k ≤ n ∧ i = .int .i64 (k : Int) ∧ Hid (PutL wc wr ib mb (.slice da n dc) o off data k)) (fun i _ => n - (intOf i).toNat)
  case atStart => exact ⟨0, Nat.zero_le _, rfl, Lib.hid ⟨HQ1.out.blk, HQ1.out.map, Mod.refl _ _, HD.out.kept HC.out.1 (fun _ _ h => h)⟩⟩
  case round =>
   obtain ⟨k, hk, rfl, HI⟩ := hrel
   have k0 : (0 : Int) ≤ (k : Int) := by omega
   have k1 : (k : Int) ≤ 4611686018427387903 := by omega
   by_cases hlt : k < n
   ·obtain ⟨x, hx⟩ : ∃ x, data[k]? = some x := ⟨_, List.getElem?_eq_getElem (by have := HDN.out; omega)⟩
    obtain ⟨-, a', cap', he, -, -, -, h5⟩ := HI.out.byts
    obtain ⟨b, offb, hp, hcell⟩ := h5 k (.int .u8 (x.toNat : Int)) (by rw [List.getElem?_map, hx]; rfl)
    simp only [Value.slice.injEq] at he
    obtain ⟨rfl, -, rfl⟩ := he
    subst hp
    have t1 : decide ((k : Int) < (n : Int)) = true := by simp; omega
    have t1' : decide (k < n) = true := by simp; omega
    have z1 : (k : Int) < (n : Int) := by omega
    have k2 : IntKind.u64.wrap (k : Int) = (k : Int) := IntWalk.u64_in _ (by omega)
    obtain ⟨A, hA⟩ : ∃ A, A = off + k := ⟨_, rfl⟩
    have k3 : IntKind.u64.wrap ((off : Int) + (k : Int)) = (A : Int) := by rw [IntWalk.u64_in _ (by have := HOK.out; omega)]; omega
    have k4 : (Lit.int .u64 (A : Int)).wf = true := u64_wf (by have := HOK.out; omega)
    have c5 : wr.cell? ⟨ib, 5, none⟩ = some (.map (some mb)) := HI.out.blk.cellAt 5 rfl
    have c1 : wr.cell? ⟨ib, 1, none⟩ = some (.int .u64 (o.read : Int)) := HI.out.blk.cellAt 1 rfl
    have hlk := HI.out.map.lookok (t := 130) (e := 5) Tryz.underlying26 k4 Tryz.underlying130 (zero_u8 _)
    have HSTEP : Hid (fillK o.read off data (o.dom, o.f) (k + 1) = stepI o.read A x (fillK o.read off data (o.dom, o.f) k)) := Lib.hid (by
     show (match data[k]? with | some c => stepI o.read (off + k) c (fillK o.read off data (o.dom, o.f) k) | none => fillK o.read off data (o.dom, o.f) k) = _
     rw [hx, hA])
    have HKN := Lib.hid (And.intro hlt hA)
    have HB1 : Hid ((fillK o.read off data (o.dom, o.f) k).1.length < maxLen) := Lib.hid (by
     have := nodup_range o.win (o.read : Int) _ HI.out.map.nodup (fun z hz => by
      rw [fillK_mem k (by have := HDN.out; omega)] at hz
      have hd2 := HQ1.out.doms z
      have := HBW.out
      have := HOK.out
      rcases hz with hz | hz
      ·have := hd2 hz; omega
      ·omega)
     have := HOK.out.1.1
     unfold maxLen
     omega)
    clear h5 hx hk hlt hA
    by_cases hin : (A : Int) ∈ (fillK o.read off data (o.dom, o.f) k).1
    ·rw [if_pos hin, decide_eq_true hin] at hlk
     have HS2 : Hid (fillK o.read off data (o.dom, o.f) (k + 1) = fillK o.read off data (o.dom, o.f) k) := Lib.hid (by rw [HSTEP.out]; unfold stepI; rw [if_pos (.inl hin)])
     clear hin
     generalize hV : (Value.int IntKind.u8 (((fillK o.read off data (o.dom, o.f) k).2 (A : Int)).toNat : Int)) = V at hlk
     clear hV
     generalize (x.toNat : Int) = zx at *
     go_wp2_with fail
     go_roundw
     case rel => exact ⟨k + 1, by have := HKN.out; omega, by go_num, Lib.hid ⟨HI.out.blk, by rw [HS2.out]; exact HI.out.map, HI.out.mod, HI.out.byts⟩⟩
     case measure => have := HKN.out; simp [intOf]; omega
    ·rw [if_neg hin, decide_eq_false hin] at hlk
     by_cases hr : A < o.read
     ·have t2 : decide ((o.read : Int) ≤ (A : Int)) = false := decide_eq_false (by omega)
      have t2' : decide (o.read ≤ A) = false := decide_eq_false (by omega)
      have HS2 : Hid (fillK o.read off data (o.dom, o.f) (k + 1) = fillK o.read off data (o.dom, o.f) k) := Lib.hid (by rw [HSTEP.out]; unfold stepI; rw [if_pos (.inr hr)])
      clear hin hr
      generalize (x.toNat : Int) = zx at *
      go_wp2_with fail
      go_roundw
      case rel => exact ⟨k + 1, by have := HKN.out; omega, by go_num, Lib.hid ⟨HI.out.blk, by rw [HS2.out]; exact HI.out.map, HI.out.mod, HI.out.byts⟩⟩
      case measure => have := HKN.out; simp [intOf]; omega
     ·have t2 : decide ((o.read : Int) ≤ (A : Int)) = true := decide_eq_true (by omega)
      have t2' : decide (o.read ≤ A) = true := decide_eq_true (by omega)
      obtain ⟨w2, hrun, hmap, hmod⟩ := HI.out.map.put (t := 130) (e := 5) Tryz.underlying26 (.int .u8 (x.toNat : Int)) k4 HB1.out Tryz.underlying130
      have HR := Lib.hid hrun
      have HNEW : Hid (PutL wc w2 ib mb (.slice (some ⟨b, offb, none⟩) n dc) o off data (k + 1)) := Lib.hid (by
       have hne : ib ≠ mb := (HI.out.map.ne HI.out.blk).symm
       refine ⟨hmod.blk HI.out.blk hne, ?_, HI.out.mod.trans (hmod.mono (fun j _ e => .inr e)), ?_⟩
       ·rw [HSTEP.out]
        unfold stepI
        rw [if_neg (by rintro (h | h); exact hin h; exact hr h)]
        dsimp only
        rw [putF_fill] at hmap
        unfold putD at hmap
        rw [if_neg hin] at hmap
        exact hmap
       ·exact hmod.sl HI.out.byts (byts_ne HI.out.map HI.out.byts))
      clear hin hr hrun hmap hmod
      generalize (x.toNat : Int) = zx at *
      go_wp2_with (first
       | ((with_reducible refine wpList_skipr ?_ (exec_iput (m := .tmp 98) (x := .tmp 99) (v := .tmp 100) ?_ ?_ ?_ ?_ HR.out) ?_); (iterate 5 exact rfl))
       | fail)
      go_roundw
      case rel => exact ⟨k + 1, by have := HKN.out; omega, by go_num, HNEW⟩
      case measure => have := HKN.out; simp [intOf]; omega
   ·obtain rfl : k = n := by omega
    have t1 : decide ((k : Int) < (k : Int)) = false := by simp
    have c2 : wr.cell? ⟨ib, 2, none⟩ = some (.int .u64 (o.top : Int)) := HI.out.blk.cellAt 2 rfl
    have f2 : wr.frozen? ⟨ib, 2, none⟩ = false := HI.out.blk.free 2
    have c3 : wr.cell? ⟨ib, 3, none⟩ = some (.int .u64 (o.size : Int)) := HI.out.blk.cellAt 3 rfl
    have f3 : wr.frozen? ⟨ib, 3, none⟩ = false := HI.out.blk.free 3
    have c4 : wr.cell? ⟨ib, 4, none⟩ = some (.bool o.known) := HI.out.blk.cellAt 4 rfl
    have f4 : wr.frozen? ⟨ib, 4, none⟩ = false := HI.out.blk.free 4
    have m1 : max (o.top : Int) zE = ((max o.top E : Nat) : Int) := by have := HZ.out.1; omega
    have HMX : Hid (∀ T, T = max o.top E → o.win ≤ 100000 ∧ o.read ≤ T ∧ T ≤ o.read + o.win ∧ T ≤ 4611686018427387904 ∧ o.top ≤ T ∧ E ≤ T) := Lib.hid (fun T hT => by have := HOK.out; have := HBW.out; omega)
    generalize hT : max o.top E = T at *
    have HT := Lib.hid (HMX.out T rfl)
    have HNE : Hid (ib ≠ mb) := Lib.hid (HI.out.map.ne HI.out.blk).symm
    have HDM : Hid (∀ z ∈ (fillK o.read off data (o.dom, o.f) k).1, (o.read : Int) ≤ z ∧ z < (T : Int)) := Lib.hid (fun z hz => by
     rw [fillK_mem k (by have := HDN.out; omega)] at hz
     have := HT.out
     have := HOK.out
     rcases hz with hz | hz
     ·have := HQ1.out.doms z hz; omega
     ·omega)
    have HQW := Lib.hid (And.intro HQ1.out.at0 HQ1.out.at1)
    have HB2 := Lib.hid (HI.out.blk.set 2 (.int .u64 (T : Int)))
    have HM2 := Lib.hid ((Mod.refl (fun j => j = ib) wr).setCell (p := ⟨ib, 2, none⟩) (fun _ => rfl) (.int .u64 (T : Int)))
    cases last with
    | false =>
     clear hk hlt c3 f3 c4 f4
     go_wp2_with fail
     go_ret
     rw [HFIN.out.1, HFIN.out.2]
     refine ⟨rfl, ⟨HQW.out.1, HQW.out.2, ?_, HI.out.map.kept HM2.out (fun e => HNE.out e.symm), HDM.out, ?_⟩, ?_⟩
     ·have := HB2.out
      simpa [iCells] using this
     ·have := HT.out
      have := HOK.out
      dsimp only
      exact ⟨by omega, by omega, by omega, by omega, by simp; omega⟩
     ·exact (HC.out.1.mono (fun _ _ h => h.elim)).trans (HI.out.mod.trans (HM2.out.mono (fun j _ e => .inl e)))
    | true =>
     have HB4 := Lib.hid ((HB2.out.set 3 (.int .u64 zE)).set 4 (.bool true))
     have HM4 := Lib.hid ((HM2.out.setCell (p := ⟨ib, 3, none⟩) (fun _ => rfl) (.int .u64 zE)).setCell (p := ⟨ib, 4, none⟩) (fun _ => rfl) (.bool true))
     clear hk hlt
     go_wp2_with fail
     go_ret
     rw [HFIN.out.1, HFIN.out.2]
     refine ⟨rfl, ⟨HQW.out.1, HQW.out.2, ?_, HI.out.map.kept HM4.out (fun e => HNE.out e.symm), HDM.out, ?_⟩, ?_⟩
     ·have := HB4.out
      simp [iCells] at this ⊢
      rw [HZ.out.1]
      exact this
     ·have := HT.out
      have := HOK.out
      dsimp only
      exact ⟨by omega, by omega, by omega, by omega, by simp; omega⟩
     ·exact (HC.out.1.mono (fun _ _ h => h.elim)).trans (HI.out.mod.trans (HM4.out.mono (fun j _ e => .inl e)))
end Go.Proofs.YtolgeghdkoodnaaGreatDoor
