/- Parts of the proof: SzP SzQ SzR SzS OpR OpS SzT SzU SzV. -/
import Derived.Test.YtolgeghdkoodnaaGreatDoorP01
import Derived.Test.YtolgeghdkoodnaaGreatDoorP02
import Derived.Test.YtolgeghdkoodnaaGreatDoorP12
import Derived.Test.YtolgeghdkoodnaaGreatDoorP13
import Derived.Test.YtolgeghdkoodnaaGreatDoorPa03
import Derived.Lib.SmallJoins
import Derived.Deep.SlicePairs
set_option maxRecDepth 100000
namespace Go.Proofs.YtolgeghdkoodnaaGreatDoor
open Go.RowKit Go.Maps
theorem grid_get (V : Nat → Value) {j : Nat} (hj : j < 6) : (gridC V)[j]? = some (V j) := by
 obtain rfl | rfl | rfl | rfl | rfl | rfl : j = 0 ∨ j = 1 ∨ j = 2 ∨ j = 3 ∨ j = 4 ∨ j = 5 := by omega
 all_goals rfl
theorem grid_set (V : Nat → Value) {j : Nat} (hj : j < 6) (u : Value) : (gridC V).setIfInBounds j u = gridC (upd2 V j u) := by
 obtain rfl | rfl | rfl | rfl | rfl | rfl : j = 0 ∨ j = 1 ∨ j = 2 ∨ j = 3 ∨ j = 4 ∨ j = 5 := by omega
 all_goals rfl
theorem grid_turn {W w w1 : World} (pre : List Th) {b : Nat} {V : Nat → Value} {L : Nat → List UInt8} {post : List Th} (h : At W w (pre ++ blkTh b (gridC V) 64 :: (rows6 W.heap.size V L ++ post))) {j : Nat} (hj : j < 6) {u : Value} {l : List UInt8} (hP : OwnB w1 W.heap.size u l) (hR : ∀ k, u.ownBlock = some k → (V j).ownBlock = some k ∨ (w.heap.size ≤ k ∧ k < w1.heap.size)) (hM : Mod (fun k => (V j).ownBlock = some k) w w1) :
  At W (w1.setCell ⟨b, j, none⟩ u) (pre ++ blkTh b (gridC (upd2 V j u)) 64 :: (rows6 W.heap.size (upd2 V j u) (upd2 L j l) ++ post)) := by
 have e : ∀ (o : Th) (r : List Th), pre ++ o :: r = (pre ++ [o]) ++ r := fun o r => by simp
 rw [e] at h
 have h2 := h.row6 _ hj hP hR hM
 rw [← e] at h2
 refine h2.turn (w' := w1.setCell ⟨b, j, none⟩ u) pre (o' := blkTh b (gridC (upd2 V j u)) 64) ?_ (fun k hk => .inl hk) ((Mod.refl (fun k => k = b) _).setCell (p := ⟨b, j, none⟩) (fun _ => rfl) _)
 have hb := (show Blk w1 b (gridC V) 64 from h2.get pre).set j u
 rw [grid_set V hj] at hb
 exact hb
theorem AcAt.cell8 {W w : World} {ex : List Th} {M : AcMem} {T : Nat → Tb} {L8 L9 : Nat → List UInt8} {ids : Nat → List Int} (h : AcAt W w ex M T L8 L9 ids) {j : Nat} (hj : j < 6) : w.cell? ⟨M.b8, j, none⟩ = some (M.V8 j) := by
 obtain ⟨G, h⟩ := h
 have hb : Blk w M.b8 (gridC M.V8) 64 := (h.1.mem (blkTh M.b8 (gridC M.V8) 64) (by unfold acRest; simp)).1
 exact hb.cellAt j (grid_get _ hj)
theorem AcAt.row8 {W w : World} {ex : List Th} {M : AcMem} {T : Nat → Tb} {L8 L9 : Nat → List UInt8} {ids : Nat → List Int} (h : AcAt W w ex M T L8 L9 ids) {j : Nat} (hj : j < 6) : OwnB w W.heap.size (M.V8 j) (L8 j) := by
 obtain ⟨G, h⟩ := h
 refine (h.1.mem (rowTh W.heap.size (M.V8 j) (L8 j)) ?_).1
 have hm : rowTh W.heap.size (M.V8 j) (L8 j) ∈ rows6 W.heap.size M.V8 L8 := by
  unfold rows6
  obtain rfl | rfl | rfl | rfl | rfl | rfl : j = 0 ∨ j = 1 ∨ j = 2 ∨ j = 3 ∨ j = 4 ∨ j = 5 := by omega
  all_goals simp
 unfold acRest
 simp only [List.mem_append, List.mem_cons]
 exact .inr (.inr (.inr (.inr (.inr (.inl hm)))))
theorem AcAt.set8 {w1 : World} {W w : World} {ex : List Th} {M : AcMem} {T : Nat → Tb} {L8 L9 : Nat → List UInt8} {ids : Nat → List Int} (h : AcAt W w ex M T L8 L9 ids) {j : Nat} (hj : j < 6) {u : Value} {l : List UInt8} (hP : OwnB w1 W.heap.size u l) (hR : ∀ k, u.ownBlock = some k → (M.V8 j).ownBlock = some k ∨ (w.heap.size ≤ k ∧ k < w1.heap.size)) (hM : Mod (fun k => (M.V8 j).ownBlock = some k) w w1) :
  AcAt W (w1.setCell ⟨M.b8, j, none⟩ u) ex { M with V8 := upd2 M.V8 j u } T (upd2 L8 j l) L9 ids := by
 obtain ⟨G, h⟩ := h
 refine ⟨G, ?_⟩
 unfold acRest at h ⊢
 have e : ∀ X : List Th, ex ++ (tabTh W.heap.size (M.tb 0) (M.mb 0) (G 0) (T 0) :: tabTh W.heap.size (M.tb 1) (M.mb 1) (G 1) (T 1) :: blkTh M.bx #[.pointer (some ⟨M.tb 0, 0, none⟩), .pointer (some ⟨M.tb 1, 0, none⟩)] 24 :: X) = (ex ++ (tabTh W.heap.size (M.tb 0) (M.mb 0) (G 0) (T 0) :: tabTh W.heap.size (M.tb 1) (M.mb 1) (G 1) (T 1) :: blkTh M.bx #[.pointer (some ⟨M.tb 0, 0, none⟩), .pointer (some ⟨M.tb 1, 0, none⟩)] 24 :: [])) ++ X := fun X => by simp
 rw [e] at h
 have h2 := grid_turn _ h hj hP hR hM
 rw [← e] at h2
 exact h2
theorem AcAt.cell9 {W w : World} {ex : List Th} {M : AcMem} {T : Nat → Tb} {L8 L9 : Nat → List UInt8} {ids : Nat → List Int} (h : AcAt W w ex M T L8 L9 ids) {j : Nat} (hj : j < 6) : w.cell? ⟨M.b9, j, none⟩ = some (M.V9 j) := by
 obtain ⟨G, h⟩ := h
 have hb : Blk w M.b9 (gridC M.V9) 64 := (h.1.mem (blkTh M.b9 (gridC M.V9) 64) (by unfold acRest; simp)).1
 exact hb.cellAt j (grid_get _ hj)
theorem AcAt.row9 {W w : World} {ex : List Th} {M : AcMem} {T : Nat → Tb} {L8 L9 : Nat → List UInt8} {ids : Nat → List Int} (h : AcAt W w ex M T L8 L9 ids) {j : Nat} (hj : j < 6) : OwnB w W.heap.size (M.V9 j) (L9 j) := by
 obtain ⟨G, h⟩ := h
 refine (h.1.mem (rowTh W.heap.size (M.V9 j) (L9 j)) ?_).1
 have hm : rowTh W.heap.size (M.V9 j) (L9 j) ∈ rows6 W.heap.size M.V9 L9 := by
  unfold rows6
  obtain rfl | rfl | rfl | rfl | rfl | rfl : j = 0 ∨ j = 1 ∨ j = 2 ∨ j = 3 ∨ j = 4 ∨ j = 5 := by omega
  all_goals simp
 unfold acRest
 simp only [List.mem_append, List.mem_cons]
 exact .inr (.inr (.inr (.inr (.inr (.inr (.inr (.inl hm)))))))
theorem AcAt.set9 {w1 : World} {W w : World} {ex : List Th} {M : AcMem} {T : Nat → Tb} {L8 L9 : Nat → List UInt8} {ids : Nat → List Int} (h : AcAt W w ex M T L8 L9 ids) {j : Nat} (hj : j < 6) {u : Value} {l : List UInt8} (hP : OwnB w1 W.heap.size u l) (hR : ∀ k, u.ownBlock = some k → (M.V9 j).ownBlock = some k ∨ (w.heap.size ≤ k ∧ k < w1.heap.size)) (hM : Mod (fun k => (M.V9 j).ownBlock = some k) w w1) :
  AcAt W (w1.setCell ⟨M.b9, j, none⟩ u) ex { M with V9 := upd2 M.V9 j u } T L8 (upd2 L9 j l) ids := by
 obtain ⟨G, h⟩ := h
 refine ⟨G, ?_⟩
 unfold acRest at h ⊢
 have e : ∀ X : List Th, ex ++ (tabTh W.heap.size (M.tb 0) (M.mb 0) (G 0) (T 0) :: tabTh W.heap.size (M.tb 1) (M.mb 1) (G 1) (T 1) :: blkTh M.bx #[.pointer (some ⟨M.tb 0, 0, none⟩), .pointer (some ⟨M.tb 1, 0, none⟩)] 24 :: blkTh M.b8 (gridC M.V8) 64 :: (rows6 W.heap.size M.V8 L8 ++ X)) = (ex ++ (tabTh W.heap.size (M.tb 0) (M.mb 0) (G 0) (T 0) :: tabTh W.heap.size (M.tb 1) (M.mb 1) (G 1) (T 1) :: blkTh M.bx #[.pointer (some ⟨M.tb 0, 0, none⟩), .pointer (some ⟨M.tb 1, 0, none⟩)] 24 :: blkTh M.b8 (gridC M.V8) 64 :: (rows6 W.heap.size M.V8 L8 ++ []))) ++ X := fun X => by simp
 rw [e] at h
 have h2 := grid_turn _ h hj hP hR hM
 rw [← e] at h2
 exact h2
end Go.Proofs.YtolgeghdkoodnaaGreatDoor
set_option maxRecDepth 100000
namespace Go.Proofs.YtolgeghdkoodnaaGreatDoor
open Go.RowKit Go.Maps
theorem infoU64 : (Tryz.prog.info? 26).map (fun i => (i.zero, i.size, i.bytes)) = some (some (.int .u64 0), 1, 8) := by kernel_rfl
theorem wpList_append_u {w : World} {ops : Array Oper} {rest : List Oper} {o : Oper} {a : Act} {Q : Exit → Act → World → Prop} (hgd : o.guard = none) (s x : Operand)
  (ho : o.op = .call { callee := .builtin .append, args := #[s, x], argTypes := #[36, 36] })
  (v : Value) (l : List Int) (B : Nat) (hs : a.eval s = v) (hown : OwnU w B v l) (sv : Value) (news : List Int) (hx : a.eval x = sv) (hsl : Sl w 1 sv news.length (news.map encU)) (hbytes : (l.length + news.length) * 8 ≤ 140737488355328) (hbase : B ≤ w.heap.size)
  (h : ∀ v' w', OwnU w' B v' (l ++ news) → w.grownBy w' v.ownBlock → wpList Tryz.prog ops Q rest (a.put o.dst v') w') : wpList Tryz.prog ops Q (o :: rest) a w := by
 obtain ⟨i0, hi, hz0, hz1, hz2⟩ := info_parts infoU64
 refine wpList_append_sl hgd s x 36 ho B 26 i0 (.int .u64 0) 1 8 Tryz.underlying36 hi hz0 hz1 hz2 rfl (by decide) v l.length (l.map encU) hs hown sv news.length (news.map encU) hx hsl (fun u hu => by
  obtain ⟨z, -, rfl⟩ := List.mem_map.1 hu
  rfl) hbytes (by decide) hbase ?_
 intro v' w' ho' hg
 refine h v' w' ?_ hg
 unfold OwnU
 simpa using ho'
theorem wpList_build_u {w : World} {ops : Array Oper} {rest : List Oper} {op : Oper} {a : Act} {Q : Exit → Act → World → Prop} (hgd : op.guard = none) (x : Operand) (ho : op.op = .buildSlice 36 1 #[(0, x)]) (z : Int) (hx : a.eval x = .int .u64 z)
  (h : wpList Tryz.prog ops Q rest (a.put op.dst (.slice (some ⟨w.heap.size, 0, none⟩) 1 1)) (w.alloc (.cells #[.int .u64 z] 26))) : wpList Tryz.prog ops Q (op :: rest) a w := by
 obtain ⟨i0, hi, hz0, hz1, hz2⟩ := info_parts infoU64
 refine wpList_buildSlice hgd 36 26 1 #[(0, x)] ho #[.int .u64 z] i0 _ Tryz.underlying36 hi hz0 (by rw [hz1]; decide) (by rw [hz1]; decide) ?_ h
 rw [hz1]
 have e := Go.Great.fill_whole (s := 1) (by decide) [Value.int .u64 z] ((Array.range (1 * 1)).map ((Value.int .u64 0).cells[· % (Value.int .u64 0).cells.size]!)) (fun v hv => by rw [List.mem_singleton.1 hv]; rfl) (by rw [Array.size_map, Array.size_range]; rfl)
 have e2 : (#[(0, x)].map fun (p : Nat × Operand) => (p.1, a.eval p.2)).toList = (([Value.int .u64 z].zipIdx 0).map fun x => (x.2, x.1)) := by simp [hx]
 refine Eq.trans (congrArg _ e2) (e.trans ?_)
 simp [Value.cells]
theorem one_lit (w : World) (z : Int) : Sl (w.alloc (.cells #[.int .u64 z] 26)) 1 (.slice (some ⟨w.heap.size, 0, none⟩) 1 1) [z].length ([z].map encU) := by
 refine ⟨by simp, _, 1, rfl, Nat.le_refl _, by decide, fun h => by simp at h, fun j u hu => ⟨_, 0, rfl, ?_⟩⟩
 have hb := Blk.new w #[.int .u64 z] 26
 cases j with
 | zero =>
  have e : u = .int .u64 z := by simpa using hu.symm
  rw [e]
  exact hb.cellAt 0 rfl
 | succ j => simp at hu
end Go.Proofs.YtolgeghdkoodnaaGreatDoor
set_option maxRecDepth 100000
namespace Go.Proofs.YtolgeghdkoodnaaGreatDoor
open Go.RowKit Go.Maps
def rowOf (ids : List Int) (wr : Int → List UInt8) (k : Nat) : List UInt8 := match ids[k]? with
 | some z => wr z
 | none => []
def Rows (L : Nat → List UInt8) (ids : Nat → List Int) (wr : Nat → Int → List UInt8) : Prop := ∀ v, v < 2 → ∀ k, k < 3 → L (3 * v + k) = rowOf (ids v) (wr v) k
theorem Rows.start (ids : Nat → List Int) : Rows (fun _ => []) ids (fun _ _ => []) := by
 intro v _ k _
 unfold rowOf
 split <;> rfl
theorem Rows.at {L : Nat → List UInt8} {ids : Nat → List Int} {wr : Nat → Int → List UInt8} (h : Rows L ids wr) {v k : Nat} (hv : v < 2) (hk : k < 3) {z : Int} (hz : (ids v)[k]? = some z) : L (3 * v + k) = wr v z := by
 rw [h v hv k hk]
 unfold rowOf
 rw [hz]
theorem Rows.set {L : Nat → List UInt8} {ids : Nat → List Int} {wr : Nat → Int → List UInt8} (h : Rows L ids wr) {v k : Nat} (hv : v < 2) (hk : k < 3) {z : Int} (hz : (ids v)[k]? = some z) (hn : (ids v).Nodup) (l : List UInt8) : Rows (upd2 L (3 * v + k) l) ids (upd2 wr v (updR (wr v) z l)) := by
 intro u hu j hj
 by_cases e : u = v
 ·subst e
  rw [upd2_same]
  unfold rowOf
  by_cases e2 : j = k
  ·subst e2
   rw [upd2_same, hz]
   show l = updR (wr u) z l z
   unfold updR
   rw [if_pos rfl]
  ·rw [upd2_other _ _ (by omega), h u hu j hj]
   unfold rowOf
   cases hy : (ids u)[j]? with
   | none => rfl
   | some y =>
    show wr u y = updR (wr u) z l y
    unfold updR
    rw [if_neg]
    rintro rfl
    obtain ⟨h1, h2⟩ := List.getElem?_eq_some_iff.1 hy
    obtain ⟨h3, h4⟩ := List.getElem?_eq_some_iff.1 hz
    exact e2 ((List.getElem_inj hn).1 (h2.trans h4.symm))
 ·rw [upd2_other _ _ (by omega), upd2_other _ _ e]
  exact h u hu j hj
theorem AcI.nod {N : Nat} {pd : Nat → Nat} {ids : Nat → List Int} {T : Nat → Tb} {wr rd : Nat → Int → List UInt8} (I : AcI N pd ids T wr rd) {v : Nat} (hv : v < 2) : (ids v).Nodup := (I.pair v hv).ab.nodI
theorem AcI.few {N : Nat} {pd : Nat → Nat} {ids : Nat → List Int} {T : Nat → Tb} {wr rd : Nat → Int → List UInt8} (I : AcI N pd ids T wr rd) {v : Nat} (hv : v < 2) : (ids v).length ≤ 3 := (I.pair v hv).ab.few
theorem AcI.test {N : Nat} {pd : Nat → Nat} {ids : Nat → List Int} {T : Nat → Tb} {wr rd : Nat → Int → List UInt8} (I : AcI N pd ids T wr rd) {L8 L9 : Nat → List UInt8} (h8 : Rows L8 ids wr) (h9 : Rows L9 ids rd) {v k : Nat} (hv : v < 2) (hk : k < 3) :
  L9 (3 * v + k) = (L8 (3 * v + k)).take (L9 (3 * v + k)).length ∧ (L9 (3 * v + k)).length ≤ (L8 (3 * v + k)).length ∧ (L8 (3 * v + k)).length ≤ 2000 := by
 rw [h8 v hv k hk, h9 v hv k hk]
 unfold rowOf
 cases hz : (ids v)[k]? with
 | none => exact ⟨rfl, Nat.le_refl _, by show (0 : Nat) ≤ 2000; omega⟩
 | some z => exact (I.pair v hv).begins (I.cnt v hv) (List.mem_of_getElem? hz) (List.mem_of_getElem? hz)
theorem AcI.idn {N : Nat} {pd : Nat → Nat} {ids : Nat → List Int} {T : Nat → Tb} {wr rd : Nat → Int → List UInt8} (I : AcI N pd ids T wr rd) {v k : Nat} (hv : v < 2) {z : Int} (hz : (ids v)[k]? = some z) : ∃ id : Nat, z = (id : Int) ∧ (id : Int) ∈ ids v ∧ Go.Proofs.YtolgeghdkoodnaaGreatDoor.okId id := by
 have hm := List.mem_of_getElem? hz
 obtain ⟨h0, -⟩ := (I.pair v hv).ab.mine z hm
 obtain ⟨id, rfl⟩ : ∃ id : Nat, z = (id : Int) := ⟨z.toNat, by omega⟩
 exact ⟨id, rfl, hm, I.okId hv hm⟩
end Go.Proofs.YtolgeghdkoodnaaGreatDoor
set_option maxRecDepth 100000
namespace Go.Proofs.YtolgeghdkoodnaaGreatDoor
open Go.RowKit Go.Maps
theorem app_w {w : World} (base : Nat) (t ty e : TypeId) (i : TypeInfo) (z : Value) (bytes : Nat) (ht : Tryz.prog.underlying t = some (.slice e)) (hi : Tryz.prog.info? e = some i) (hz : i.zero = some z)
  (hsize : i.size = 1) (hby : i.bytes = bytes) (hzs : z.cells.size = 1) (v : Value) (n : Nat) (xs : List Value) (hown : w.ownsRow base e 1 v n xs) (sv : Value) (m : Nat) (news : List Value) (hsl : Sl w 1 sv m news) (h1 : ∀ u ∈ news, u.oneCell' = true) (hb0 : 0 < bytes) (hbytes : (n + m) * bytes ≤ 140737488355328) (hbase : base ≤ w.heap.size) :
  ∃ v' w', (Builtin.append_ #[t, t] ty #[v, sv]).run Tryz.prog w = .ok v' w' ∧ w'.ownsRow base e 1 v' (n + m) (xs ++ news) ∧ Mod (fun k => v.ownBlock = some k) w w' ∧ ∀ k, v'.ownBlock = some k → v.ownBlock = some k ∨ (w.heap.size ≤ k ∧ k < w'.heap.size) := by
 have h63 : n + m ≤ maxLen := by
  have := Nat.le_trans (Nat.le_mul_of_pos_right (n + m) hb0) hbytes
  unfold maxLen; omega
 obtain ⟨hl, ao, c, rfl, hc1, hc2, hc3, hc4⟩ := hsl
 cases ao with
 | none =>
  obtain rfl := hc3 rfl
  obtain rfl : m = 0 := by omega
  obtain rfl : news = [] := List.eq_nil_of_length_eq_zero (by simpa using hl)
  have hrun := run_append_owned_none (P := Tryz.prog) (w := w) base t ty e i 1 ht hi v n xs hown
  exact ⟨v, w, hrun, by simpa using hown, Mod.refl _ _, fun k hk => .inl hk⟩
 | some ad =>
  obtain ⟨v', w', hr, ho, hg, -, hw⟩ := run_append_own_at (P := Tryz.prog) (w := w) base t ty e i z 1 bytes ht hi hz hsize hby hzs (by decide) v n xs hown ad m c news hl (fun j u hu => by
   obtain ⟨b, off, he, hcell⟩ := hc4 j u hu
   simp at he; subst he
   rw [Addr.add_lit]; exact hcell) h1 h63 hbytes hbase
  refine ⟨v', w', hr, ho, (Mod.refl _ _).grown hg (fun k hk _ => hk), fun k hk => ?_⟩
  rcases hw with e | e
  ·exact .inl (by rw [← e]; exact hk)
  ·right
   have := World.ownsRow.lt ho k hk
   rw [e] at hk
   injection hk with hk
   omega
theorem app_b {w : World} {B : Nat} {v sv : Value} {l news : List UInt8} (ho : OwnB w B v l) (hs : Byts w sv news) (hn : l.length + news.length ≤ 1000000) (hB : B ≤ w.heap.size) (ty : TypeId) :
  ∃ v' w', (Builtin.append_ #[42, 42] ty #[v, sv]).run Tryz.prog w = .ok v' w' ∧ OwnB w' B v' (l ++ news) ∧ Mod (fun k => v.ownBlock = some k) w w' ∧ ∀ k, v'.ownBlock = some k → v.ownBlock = some k ∨ (w.heap.size ≤ k ∧ k < w'.heap.size) := by
 obtain ⟨i0, hi, hz0, hz1, hz2⟩ := info_parts Tryz.info5
 obtain ⟨v', w', hr, h1, h2, h3⟩ := app_w (w := w) B 42 ty 5 i0 (.int .u8 0) 1 Tryz.underlying42 hi hz0 hz1 hz2 rfl v l.length (l.map bv) ho sv news.length (news.map bv) hs (bv_one _) (by decide) (by omega) hB
 exact ⟨v', w', hr, by unfold OwnB; simpa using h1, h2, h3⟩
theorem app_u {w : World} {B : Nat} {v sv : Value} {l news : List Int} (ho : OwnU w B v l) (hs : Sl w 1 sv news.length (news.map encU)) (hn : l.length + news.length ≤ 1000000) (hB : B ≤ w.heap.size) (ty : TypeId) :
  ∃ v' w', (Builtin.append_ #[36, 36] ty #[v, sv]).run Tryz.prog w = .ok v' w' ∧ OwnU w' B v' (l ++ news) ∧ Mod (fun k => v.ownBlock = some k) w w' ∧ ∀ k, v'.ownBlock = some k → v.ownBlock = some k ∨ (w.heap.size ≤ k ∧ k < w'.heap.size) := by
 obtain ⟨i0, hi, hz0, hz1, hz2⟩ := info_parts infoU64
 obtain ⟨v', w', hr, h1, h2, h3⟩ := app_w (w := w) B 36 ty 26 i0 (.int .u64 0) 8 Tryz.underlying36 hi hz0 hz1 hz2 rfl v l.length (l.map encU) ho sv news.length (news.map encU) hs (fun u hu => by
  obtain ⟨z, -, rfl⟩ := List.mem_map.1 hu
  rfl) (by decide) (by omega) hB
 exact ⟨v', w', hr, by unfold OwnU; simpa using h1, h2, h3⟩
theorem upd2_twice {α : Type} (f : Nat → α) (i : Nat) (a b : α) : upd2 (upd2 f i a) i b = upd2 f i b := by
 funext j
 unfold upd2
 split <;> rfl
theorem acIdApp {W w : World} {ex : List Th} {M : AcMem} {T : Nat → Tb} {L8 L9 : Nat → List UInt8} {ids : Nat → List Int} (h : AcAt W w ex M T L8 L9 ids) {v : Nat} (hv : v < 2) (z : Int) (hn : (ids v).length ≤ 3) (ty : TypeId) :
  ∃ a n c w', (Builtin.append_ #[36, 36] ty #[M.VI v, .slice (some ⟨w.heap.size, 0, none⟩) 1 1]).run Tryz.prog (w.alloc (.cells #[.int .u64 z] 26)) = .ok (.slice a n c) w' ∧ w'.frozen? ⟨M.b10, v, none⟩ = false ∧ w'.cell? ⟨M.b10, v, none⟩ = some (M.VI v) ∧ AcAt W (w'.setCell ⟨M.b10, v, none⟩ (.slice a n c)) ex { M with VI := upd2 M.VI v (.slice a n c) } T L8 L9 (upd2 ids v (ids v ++ [z])) := by
 have h1 := h.still ((Mod.refl (fun _ => False) w).alloc (.cells #[.int .u64 z] 26))
 obtain ⟨u, w', hr, h2, h3, h4⟩ := app_u (h1.idrow hv) (one_lit w z) (by rw [List.length_singleton]; omega) h1.fin.size ty
 obtain ⟨a, c, rfl⟩ := OwnU.val h2
 have hb := h3.blk h1.b10 (fun e => OwnU.apart (h1.idrow hv) h1.b10 (by decide) e)
 refine ⟨a, _, c, w', hr, hb.free v, ?_, h1.idset hv h2 h4 h3⟩
 obtain rfl | rfl : v = 0 ∨ v = 1 := by omega
 ·exact hb.cellAt 0 rfl
 ·exact hb.cellAt 1 rfl
theorem AcAt.drop {W w : World} {o : Th} {ex : List Th} {M : AcMem} {T : Nat → Tb} {L8 L9 : Nat → List UInt8} {ids : Nat → List Int} (h : AcAt W w (o :: ex) M T L8 L9 ids) : AcAt W w ex M T L8 L9 ids := by
 obtain ⟨G, h⟩ := h
 exact ⟨G, h.1.2.2, h.2⟩
theorem AcAt.new {W w : World} {ex : List Th} {M : AcMem} {T : Nat → Tb} {L8 L9 : Nat → List UInt8} {ids : Nat → List Int} (h : AcAt W w ex M T L8 L9 ids) (C : Array Value) (ty : TypeId) : AcAt W (w.alloc (.cells C ty)) (blkTh w.heap.size C ty :: ex) M T L8 L9 ids := by
 obtain ⟨G, h⟩ := h
 exact ⟨G, h.push ((Mod.refl (fun _ => False) w).alloc _) (blkTh w.heap.size C ty) (Blk.new _ _ _) (fun k hk => by have e : k = w.heap.size := hk; rw [World.size_alloc]; omega)⟩
theorem AcAt.get {W w : World} (l : List Th) {o : Th} {m : List Th} {M : AcMem} {T : Nat → Tb} {L8 L9 : Nat → List UInt8} {ids : Nat → List Int} (h : AcAt W w (l ++ o :: m) M T L8 L9 ids) : o.P w := by
 obtain ⟨G, h⟩ := h
 rw [List.append_assoc] at h
 exact At.get l h
theorem AcAt.bx {W w : World} {ex : List Th} {M : AcMem} {T : Nat → Tb} {L8 L9 : Nat → List UInt8} {ids : Nat → List Int} (h : AcAt W w ex M T L8 L9 ids) : Blk w M.bx #[.pointer (some ⟨M.tb 0, 0, none⟩), .pointer (some ⟨M.tb 1, 0, none⟩)] 24 := by
 obtain ⟨G, h⟩ := h
 exact (h.1.mem (blkTh M.bx #[.pointer (some ⟨M.tb 0, 0, none⟩), .pointer (some ⟨M.tb 1, 0, none⟩)] 24) (by unfold acRest; simp)).1
theorem AcAt.frame {W w : World} {D E n c : Nat} {a : Option Addr} {L : List Fr} {ex : List Th} {M : AcMem} {T : Nat → Tb} {L8 L9 : Nat → List UInt8} {ids : Nat → List Int} (h : AcAt W w (frsTh D E (.slice a n c) L :: ex) M T L8 L9 ids) {i : Nat} {f : Fr} (hi : L[i]? = some f) (hd : (f.d.length : Int) ≤ 1000000) :
  ∃ g vd, a = some ⟨g, 0, none⟩ ∧ FrV w f vd nilS ∧ (Instr.loadAt 52 (.pointer (some ⟨g, i * 24, none⟩))).run Tryz.prog w = .ok (.agg (frC f vd nilS)) w := by
 obtain ⟨G, h⟩ := h
 obtain ⟨g, vd, e, h1, h2⟩ := At.frame (l := []) h hi hd
 exact ⟨g, vd, e, h1, run_loadAt_mid w g (i * 24) 52 (frL f vd nilS) _ h2 Tryz.underlying52 rfl (sizeFrR f vd nilS h1.t)⟩
theorem AcAt.idcell {W w : World} {ex : List Th} {M : AcMem} {T : Nat → Tb} {L8 L9 : Nat → List UInt8} {ids : Nat → List Int} (h : AcAt W w ex M T L8 L9 ids) {v : Nat} (hv : v < 2) {g n c : Nat} (e : M.VI v = .slice (some ⟨g, 0, none⟩) n c) {k : Nat} {z : Int} (hz : (ids v)[k]? = some z) : w.cell? ⟨g, k, none⟩ = some (.int .u64 z) := by
 have h1 := h.idrow hv
 rw [e] at h1
 obtain ⟨g', e', hc⟩ := OwnU.at h1 hz
 simp only [Option.some.injEq, Addr.mk.injEq, and_true] at e'
 subst e'
 exact hc
theorem AcAt.idval {W w : World} {ex : List Th} {M : AcMem} {T : Nat → Tb} {L8 L9 : Nat → List UInt8} {ids : Nat → List Int} (h : AcAt W w ex M T L8 L9 ids) {v : Nat} (hv : v < 2) : ∃ a c, M.VI v = .slice a (ids v).length c ∧ ((ids v).length ≠ 0 → ∃ g, a = some ⟨g, 0, none⟩) := by
 have h1 := h.idrow hv
 obtain ⟨a, c, e⟩ := OwnU.val h1
 refine ⟨a, c, e, fun hn => ?_⟩
 rw [e] at h1
 obtain ⟨g, hg, -⟩ := OwnU.at h1 (i := 0) (List.getElem?_eq_getElem (by omega))
 exact ⟨g, hg⟩
end Go.Proofs.YtolgeghdkoodnaaGreatDoor
set_option maxRecDepth 100000
namespace Go.Proofs.YtolgeghdkoodnaaGreatDoor
open Go.Joins Go.ChangeShapes Go.WideShapes Go.RowKit Go.Deep
theorem list_of {α : Type} : ∀ (n : Nat) (Q : Nat → α → Prop), (∀ i, i < n → ∃ x, Q i x) → ∃ l : List α, l.length = n ∧ ∀ i x, l[i]? = some x → Q i x
 | 0, _, _ => ⟨[], rfl, fun i x h => by simp at h⟩
 | n + 1, Q, h => by
  obtain ⟨l, hl, hq⟩ := list_of n Q (fun i hi => h i (by omega))
  obtain ⟨x, hx⟩ := h n (by omega)
  refine ⟨l ++ [x], by simp [hl], fun i y hy => ?_⟩
  by_cases hi : i < l.length
  ·rw [List.getElem?_append_left hi] at hy
   exact hq i y hy
  ·rw [List.getElem?_append_right (by omega)] at hy
   have h0 : i - l.length = 0 := by
    have := (List.getElem?_eq_some_iff.1 hy).1
    simp at this
    omega
   rw [h0] at hy
   simp at hy
   subst hy
   rw [show i = n by omega]
   exact hx
theorem flat_len {α : Type} {f : α → List Value} {sz : Nat} (hf : ∀ x, (f x).length = sz) : ∀ l : List α, (l.flatMap f).length = l.length * sz
 | [] => by simp
 | x :: l => by rw [List.flatMap_cons, List.length_append, hf, flat_len hf l, List.length_cons, Nat.succ_mul]; omega
theorem flat_inv {α : Type} {f : α → List Value} {sz : Nat} (hf : ∀ x, (f x).length = sz) : ∀ (l : List α) (j : Nat) (u : Value), (l.flatMap f)[j]? = some u → ∃ i x k, l[i]? = some x ∧ (f x)[k]? = some u ∧ j = i * sz + k
 | [], j, u, h => by simp at h
 | x :: l, j, u, h => by
  rw [List.flatMap_cons] at h
  by_cases hj : j < (f x).length
  ·rw [List.getElem?_append_left hj] at h
   exact ⟨0, x, j, rfl, h, by omega⟩
  ·rw [List.getElem?_append_right (by omega)] at h
   obtain ⟨i, y, k, h1, h2, h3⟩ := flat_inv hf l _ u h
   refine ⟨i + 1, y, k, by simpa using h1, h2, ?_⟩
   have := hf x
   rw [Nat.succ_mul]
   omega
theorem add_plain {a : Addr} (h : a.spot = none) (j : Nat) : a.add j = ⟨a.block, a.off + j, none⟩ := by
 unfold Addr.add
 obtain ⟨ab, ao, sp⟩ := a
 simp only at h
 subst h
 split
 ·rename_i h0; subst h0; rfl
 ·rfl
theorem add_add' (a : Addr) (h : a.spot = none) (i j : Nat) : (a.add i).add j = ⟨a.block, a.off + i + j, none⟩ := by
 rw [add_plain h, add_plain rfl]
theorem sl_rows {α : Type} {W : World} {a : Addr} {len cap sz : Nat} (f : α → List Value) (hf : ∀ x, (f x).length = sz) (hz : 0 < sz) (l : List α) (hl : l.length = len) (hc : len ≤ cap) (hm : cap ≤ maxLen)
  (h : ∀ i x, l[i]? = some x → ∀ j u, (f x)[j]? = some u → W.cell? ((a.add (i * sz)).add j) = some u) : Sl W sz (.slice (some a) len cap) len (l.flatMap f) := by
 refine ⟨by rw [flat_len hf, hl], some a, cap, rfl, hc, hm, fun h => by simp at h, fun j u hu => ?_⟩
 obtain ⟨i, x, k, h1, h2, rfl⟩ := flat_inv hf l j u hu
 have h0 : 0 < l.length := by have := (List.getElem?_eq_some_iff.1 h1).1; omega
 have hsp : a.spot = none := by
  obtain ⟨y, hy⟩ : ∃ y, l[0]? = some y := ⟨_, List.getElem?_eq_getElem h0⟩
  obtain ⟨u0, hu0⟩ : ∃ u, (f y)[0]? = some u := ⟨_, List.getElem?_eq_getElem (by rw [hf]; exact hz)⟩
  have := h 0 y hy 0 u0 hu0
  rw [Nat.zero_mul] at this
  cases hs : a.spot with
  | none => rfl
  | some q =>
   exfalso
   have e : (a.add 0).add 0 = a := by simp [Addr.add]
   rw [e] at this
   unfold World.cell? at this
   rw [hs] at this
   split at this <;> simp at this
 have := h i x h1 k u h2
 rw [add_add' a hsp] at this
 exact ⟨a.block, a.off, by obtain ⟨ab, ao, sp⟩ := a; simp only at hsp; subst hsp; rfl, by rw [← Nat.add_assoc]; exact this⟩
theorem open_rows {H : Type} {enc : TypeId × Value → H} {W : World} {α : Type} {T E : TypeId} {sz : Nat} (f : α → List Value) (hf : ∀ x, (f x).length = sz) (hz : 0 < sz) (ok : α → Prop) (hT : Tryz.prog.underlying T = some (.slice E)) (hE : Program.cellsOf Tryz.prog E = sz)
  (hel : ∀ (fuel : Nat) (cs : List Value) (y : DataW H × List MemPlace), cs.length = sz → DataW.trod enc Tryz.prog W 0 (fun _ => true) true fuel E cs = some y → ∃ x, cs = f x ∧ ok x)
  {v : Value} {d : DataW H} {p : List MemPlace} {base : Nat} (hval : Value.okWide Tryz.prog W .any base T v) (h : DataW.Trod enc Tryz.prog W 0 (fun _ => true) true T v d p) :
  ∃ l : List α, Sl W sz v l.length (l.flatMap f) ∧ ∀ x ∈ l, ok x := by
 obtain ⟨a0, len, cap, rfl⟩ := okWide_slice hT hval
 obtain ⟨fuel, hfu⟩ := h
 rcases open_slice hT hfu with ⟨hcs, _⟩ | ⟨a, len', cap', m, n, D, Pl, hcs, _, hl, hm, hmm, _, hx⟩
 ·simp [Value.cells] at hcs
  obtain ⟨rfl, rfl, rfl⟩ := hcs
  exact ⟨[], Sl.nil _ _, by simp⟩
 ·simp [Value.cells] at hcs
  obtain ⟨rfl, rfl, rfl⟩ := hcs
  have hmm' : m = cap := by simpa using hmm
  have each : ∀ i, i < len → ∃ x : α, (∀ j u, (f x)[j]? = some u → W.cell? ((a.add (i * sz)).add j) = some u) ∧ ok x := by
   intro i hi
   obtain ⟨cs', h1, h2⟩ := hx i (by omega)
   rw [hE] at h1
   obtain ⟨_, hlen, hcell⟩ := World.cells?_some h1
   obtain ⟨x, rfl, hin⟩ := hel _ _ _ hlen h2
   refine ⟨x, fun j u hu => ?_, hin⟩
   have hj := (List.getElem?_eq_some_iff.1 hu).1
   have hj' := hf x
   have := hcell j (by omega)
   rw [this]
   exact hu
  obtain ⟨l, hll, hq⟩ := list_of len _ each
  refine ⟨l, ?_, fun x hx => ?_⟩
  ·rw [hll]
   exact sl_rows f hf hz l hll hl hm (fun i x hi => (hq i x hi).1)
  ·obtain ⟨i, hi⟩ := List.getElem?_of_mem hx
   exact (hq i x hi).2
end Go.Proofs.YtolgeghdkoodnaaGreatDoor
set_option maxRecDepth 100000
namespace Go.Proofs.YtolgeghdkoodnaaGreatDoor
open Go.Joins Go.ChangeShapes Go.WideShapes Go.RowKit Go.Deep
theorem spot_none {W : World} {a : Addr} {v : Value} (h : W.cell? (a.add 0) = some v) : a.spot = none := by
 unfold Addr.add at h
 simp only [if_true] at h
 cases hs : a.spot with
 | none => rfl
 | some x =>
  exfalso
  unfold World.cell? at h
  rw [hs] at h
  split at h <;> simp at h
section
variable {H : Type} {enc : TypeId × Value → H} {W : World}
theorem cells_byts {fuel : Nat} {v : Value} {y : DataW H × List MemPlace} (h : DataW.trod enc Tryz.prog W 0 (fun _ => true) true fuel 42 [v] = some y) : ∃ l : List UInt8, Byts W v l := by
 rcases open_ints Tryz.underlying42 Tryz.underlying5 (by kernel_rfl) h with ⟨hcs, hx⟩ | ⟨a, len, cap, zs, hcs, _, hl, hm, hz, hx, hcell, hwz⟩
 ·simp at hcs
  subst hcs
  exact ⟨[], Sl.nil _ _⟩
 ·simp at hcs
  subst hcs
  simp at hz
  have hwf : ∀ z ∈ zs, 0 ≤ z ∧ z ≤ 255 := fun z hz => bounds_u8 (hwz z hz)
  have each : ∀ i, i < len → ∃ x : UInt8, W.cell? (a.add i) = some (bv x) := by
   intro i hi
   have hiz : i < zs.length := by omega
   refine ⟨UInt8.ofNat zs[i].toNat, ?_⟩
   rw [hcell i (by omega), bv_of (hwf _ (List.getElem_mem hiz))]
   simp [List.getD, hiz]
  obtain ⟨l, hll, hq⟩ := list_of len _ each
  refine ⟨l, by simp, some a, cap, by rw [hll], by omega, hm, fun h => by simp at h, fun j u hu => ?_⟩
  obtain ⟨x, hx, rfl⟩ := by simpa [List.getElem?_map] using hu
  have h0 : 0 < l.length := by have := (List.getElem?_eq_some_iff.1 hx).1; omega
  have hsp := spot_none (hq 0 l[0] (List.getElem?_eq_getElem h0))
  have e1 := hq j x hx
  rw [add_plain hsp] at e1
  exact ⟨a.block, a.off, by obtain ⟨ab, ao, sp⟩ := a; simp only at hsp; subst hsp; rfl, e1⟩
end
structure StepV where
 k : Int
 w : Int
 p : Int
 n : Int
 v : Value
 lost : Int
 d : List UInt8
def stepL (s : StepV) : List Value := [.int .i64 s.k, .int .i64 s.w, .int .i64 s.p, .int .i64 s.n, s.v, .int .u16 s.lost]
def okStep (W : World) (s : StepV) : Prop := Byts W s.v s.d ∧ (-9223372036854775808 ≤ s.p ∧ s.p ≤ 9223372036854775807) ∧ (-9223372036854775808 ≤ s.n ∧ s.n ≤ 9223372036854775807) ∧ (-9223372036854775808 ≤ s.w ∧ s.w ≤ 9223372036854775807) ∧ 0 ≤ s.lost ∧ s.lost ≤ 65535
theorem stepL_6 (s : StepV) : (stepL s).length = 6 := rfl
theorem cells_step {H : Type} {enc : TypeId × Value → H} {W : World} (fuel : Nat) (cs : List Value) (y : DataW H × List MemPlace) (hl : cs.length = 6) (hf : DataW.trod enc Tryz.prog W 0 (fun _ => true) true fuel 44 cs = some y) : ∃ s, cs = stepL s ∧ okStep W s := by
 match cs, hl with
 | [c0, c1, c2, c3, c4, c5], _ =>
  obtain ⟨xs, n, _, hx, _, hlen, hg⟩ := DataW.trod_struct Tryz.underlying44 hf
  have zi : Program.cellsOf Tryz.prog 3 = 1 := by kernel_rfl
  have zb : Program.cellsOf Tryz.prog 42 = 1 := by kernel_rfl
  have zu : Program.cellsOf Tryz.prog 40 = 1 := by kernel_rfl
  match xs, hlen with
  | [y0, y1, y2, y3, y4, y5], _ =>
   have h0 : DataW.trod enc Tryz.prog W 0 (fun _ => true) true n 3 [c0] = some y0 := by simpa [Value.cells, zi] using hg 0 _ rfl
   have h1 : DataW.trod enc Tryz.prog W 0 (fun _ => true) true n 3 [c1] = some y1 := by simpa [Value.cells, zi] using hg 1 _ rfl
   have h2 : DataW.trod enc Tryz.prog W 0 (fun _ => true) true n 3 [c2] = some y2 := by simpa [Value.cells, zi] using hg 2 _ rfl
   have h3 : DataW.trod enc Tryz.prog W 0 (fun _ => true) true n 3 [c3] = some y3 := by simpa [Value.cells, zi] using hg 3 _ rfl
   have h4 : DataW.trod enc Tryz.prog W 0 (fun _ => true) true n 42 [c4] = some y4 := by simpa [Value.cells, zb] using hg 4 _ rfl
   have h5 : DataW.trod enc Tryz.prog W 0 (fun _ => true) true n 40 [c5] = some y5 := by simpa [Value.cells, zu] using hg 5 _ rfl
   obtain ⟨n0, e0, _, w0⟩ := DataW.trod_int Tryz.underlying3 h0
   obtain ⟨n1, e1, _, w1⟩ := DataW.trod_int Tryz.underlying3 h1
   obtain ⟨n2, e2, _, w2⟩ := DataW.trod_int Tryz.underlying3 h2
   obtain ⟨n3, e3, _, w3⟩ := DataW.trod_int Tryz.underlying3 h3
   obtain ⟨n5, e5, _, w5⟩ := DataW.trod_int Tryz.underlying40 h5
   obtain rfl : c0 = .int .i64 n0 := by simpa using e0
   obtain rfl : c1 = .int .i64 n1 := by simpa using e1
   obtain rfl : c2 = .int .i64 n2 := by simpa using e2
   obtain rfl : c3 = .int .i64 n3 := by simpa using e3
   obtain rfl : c5 = .int .u16 n5 := by simpa using e5
   obtain ⟨d, hd⟩ := cells_byts h4
   exact ⟨⟨n0, n1, n2, n3, c4, n5, d⟩, rfl, hd, bounds_i64 w2, bounds_i64 w3, bounds_i64 w1, bounds_u16 w5⟩
theorem open_steps {H : Type} {enc : TypeId × Value → H} {W : World} {v : Value} {d : DataW H} {p : List MemPlace} {base : Nat} (hval : Value.okWide Tryz.prog W .any base 39 v) (h : DataW.Trod enc Tryz.prog W 0 (fun _ => true) true 39 v d p) :
  ∃ l : List StepV, Sl W 6 v l.length (l.flatMap stepL) ∧ ∀ s ∈ l, okStep W s :=
 open_rows stepL stepL_6 (by decide) (okStep W) Tryz.underlying39 (by kernel_rfl) cells_step hval h
theorem step_cells (s : StepV) (l : List StepV) (i : Nat) (h : l[i]? = some s) (j : Nat) (hj : j < 6) : (l.flatMap stepL)[i * 6 + j]? = (stepL s)[j]? := by
 induction l generalizing i with
 | nil => simp at h
 | cons x l ih =>
  rw [List.flatMap_cons]
  cases i with
  | zero =>
   simp at h
   subst h
   rw [Nat.zero_mul, Nat.zero_add, List.getElem?_append_left (by rw [stepL_6]; omega)]
  | succ i =>
   rw [List.getElem?_append_right (by rw [stepL_6]; omega), stepL_6, show (i + 1) * 6 + j - 6 = i * 6 + j by omega]
   exact ih i (by simpa using h)
theorem steps_at {w : World} {v : Value} {l : List StepV} {i : Nat} {s : StepV} (h : Sl w 6 v l.length (l.flatMap stepL)) (hi : l[i]? = some s) : ∃ b off cap, v = .slice (some ⟨b, off, none⟩) l.length cap ∧ ∀ j u, (stepL s)[j]? = some u → w.cell? ⟨b, off + i * 6 + j, none⟩ = some u := by
 have hne : l.flatMap stepL ≠ [] := by
  intro e
  have h0 := step_cells s l i hi 0 (by decide)
  rw [e] at h0
  cases h0
 obtain ⟨b, off, cap, hv, _, _, hc⟩ := Sl.addr h hne
 refine ⟨b, off, cap, hv, fun j u hu => ?_⟩
 have hj : j < 6 := by have := (List.getElem?_eq_some_iff.1 hu).1; rw [stepL_6] at this; exact this
 rw [Nat.add_assoc]
 exact hc (i * 6 + j) u ((step_cells s l i hi j hj).trans hu)
end Go.Proofs.YtolgeghdkoodnaaGreatDoor
set_option maxRecDepth 100000
namespace Go.Proofs.YtolgeghdkoodnaaGreatDoor
open Go.RowKit Go.Maps
def FsC (w : World) (B E : Nat) (v : Value) (l : List Fr) (F : List Value) : Prop := (∃ css, F = css.flatten ∧ FrsI w B E l css) ∧ w.ownsRow B 52 24 v l.length F ∧ (∀ g, v.ownBlock = some g → g < E)
theorem FsC.own {w : World} {B E : Nat} {v : Value} {l : List Fr} {F : List Value} (h : FsC w B E v l F) : OwnFI w B E v l := by
 obtain ⟨⟨css, rfl, h1⟩, h2, h3⟩ := h
 exact ⟨⟨css, h1, h2⟩, h3⟩
theorem OwnFI.told {w : World} {B E : Nat} {v : Value} {l : List Fr} (h : OwnFI w B E v l) : ∃ F, FsC w B E v l F := by
 obtain ⟨⟨css, h1, h2⟩, h3⟩ := h
 exact ⟨_, ⟨css, rfl, h1⟩, h2, h3⟩
theorem FsC.kept {S : Nat → Prop} {w w' : World} {B E : Nat} {v : Value} {l : List Fr} {F : List Value} (h : FsC w B E v l F) (hM : Mod S w w') (hS : ∀ b, B ≤ b → b < E → ¬ S b) : FsC w' B E v l F := by
 have hlt := h.own.lt
 obtain ⟨⟨css, e, h1⟩, h2, h3⟩ := h
 exact ⟨⟨css, e, h1.kept hM (fun b _ _ hB hE => hS b hB hE)⟩, hM.own h2 (fun g hg => hS g (hlt g hg).1 (h3 g hg)), h3⟩
theorem FsC.at {w : World} {B E i n cap : Nat} {a : Option Addr} {l : List Fr} {F : List Value} {f : Fr} (h : FsC w B E (.slice a n cap) l F) (hi : l[i]? = some f) (hd : (f.d.length : Int) ≤ 1000000) : ∃ g vd, a = some ⟨g, 0, none⟩ ∧ F[i * 24 + 6]? = some vd ∧ FrV w f vd nilS ∧ w.rangeAt g (i * 24) (frL f vd nilS) := by
 obtain ⟨⟨css, rfl, h1⟩, h2, h3⟩ := h
 have hlt := (List.getElem?_eq_some_iff.1 hi).1
 obtain ⟨c, hc, he⟩ := h1.at hi
 have hcl := hc.len
 obtain ⟨vd, rfl, hv⟩ := hc.frv (by omega)
 rcases h2.2 with ⟨e, h0⟩ | ⟨g, cap', cur, e, _⟩
 ·omega
 ·have hn : n = l.length := by simp at e; exact e.2.1
  subst hn
  obtain rfl : a = some ⟨g, 0, none⟩ := by simpa using And.left (by simpa using e)
  refine ⟨g, vd, rfl, by rw [he 6 (by decide)]; rfl, hv, fun j u hu => ?_⟩
  have hj : j < 24 := by rw [← hcl]; exact (List.getElem?_eq_some_iff.1 hu).1
  have := World.ownsRow.cellAt h2 (i * 24 + j) (by omega)
  rw [this, he j hj]
  exact hu
def fscTh (D E : Nat) (v : Value) (L : List Fr) (F : List Value) : Th := ⟨fun w => FsC w D E v L F, fun k => D ≤ k ∧ k < E, fun _ _ _ h hM hS => h.kept hM (fun b h1 h2 => hS b ⟨h1, h2⟩)⟩
theorem AcAt.told {W w : World} {D E : Nat} {v : Value} {L : List Fr} {ex : List Th} {M : AcMem} {T : Nat → Tb} {L8 L9 : Nat → List UInt8} {ids : Nat → List Int} (h : AcAt W w (frsTh D E v L :: ex) M T L8 L9 ids) : ∃ F, AcAt W w (fscTh D E v L F :: ex) M T L8 L9 ids := by
 obtain ⟨G, h⟩ := h
 obtain ⟨F, hF⟩ := OwnFI.told (show OwnFI w D E v L from At.get [] h)
 exact ⟨F, G, At.turn [] (o' := fscTh D E v L F) h hF (fun k hk => .inl hk) (Mod.refl _ _)⟩
theorem AcAt.frameC {W w : World} {D E n c : Nat} {a : Option Addr} {L : List Fr} {F : List Value} {ex : List Th} {M : AcMem} {T : Nat → Tb} {L8 L9 : Nat → List UInt8} {ids : Nat → List Int} (h : AcAt W w (fscTh D E (.slice a n c) L F :: ex) M T L8 L9 ids) {i : Nat} {f : Fr} (hi : L[i]? = some f) (hd : (f.d.length : Int) ≤ 1000000) :
  ∃ g vd, a = some ⟨g, 0, none⟩ ∧ F[i * 24 + 6]? = some vd ∧ FrV w f vd nilS ∧ (Instr.loadAt 52 (.pointer (some ⟨g, i * 24, none⟩))).run Tryz.prog w = .ok (.agg (frC f vd nilS)) w := by
 obtain ⟨G, h⟩ := h
 obtain ⟨g, vd, e, h0, h1, h2⟩ := FsC.at (show FsC w D E (.slice a n c) L F from At.get [] h) hi hd
 exact ⟨g, vd, e, h0, h1, run_loadAt_mid w g (i * 24) 52 (frL f vd nilS) _ h2 Tryz.underlying52 rfl (sizeFrR f vd nilS h1.t)⟩
theorem AcAt.frameC2 {W w : World} {D E n c g : Nat} {vd : Value} {L : List Fr} {F : List Value} {ex : List Th} {M : AcMem} {T : Nat → Tb} {L8 L9 : Nat → List UInt8} {ids : Nat → List Int} (h : AcAt W w (fscTh D E (.slice (some ⟨g, 0, none⟩) n c) L F :: ex) M T L8 L9 ids) {i : Nat} {f : Fr} (hi : L[i]? = some f) (hd : (f.d.length : Int) ≤ 1000000) (hv : F[i * 24 + 6]? = some vd) :
  FrV w f vd nilS ∧ (Instr.loadAt 52 (.pointer (some ⟨g, i * 24, none⟩))).run Tryz.prog w = .ok (.agg (frC f vd nilS)) w := by
 obtain ⟨g', vd', e, h0, h1, h2⟩ := h.frameC hi hd
 rw [hv] at h0
 simp only [Option.some.injEq, Addr.mk.injEq, and_true] at e h0
 subst e
 subst h0
 exact ⟨h1, h2⟩
theorem acApp8 {W w : World} {ex : List Th} {M : AcMem} {T : Nat → Tb} {L8 L9 : Nat → List UInt8} {ids : Nat → List Int} (h : AcAt W w ex M T L8 L9 ids) {j : Nat} (hj : j < 6) {sv : Value} {news : List UInt8} (hs : Byts w sv news) (hn : (L8 j).length + news.length ≤ 1000000) (ty : TypeId) :
  ∃ a n c w', (Builtin.append_ #[42, 42] ty #[M.V8 j, sv]).run Tryz.prog w = .ok (.slice a n c) w' ∧ w'.frozen? ⟨M.b8, j, none⟩ = false ∧ w'.cell? ⟨M.b8, j, none⟩ = some (M.V8 j) ∧ (∀ b C U, Blk w b C U → U ≠ 5 → Blk w' b C U) ∧ AcAt W (w'.setCell ⟨M.b8, j, none⟩ (.slice a n c)) ex { M with V8 := upd2 M.V8 j (.slice a n c) } T (upd2 L8 j (L8 j ++ news)) L9 ids := by
 obtain ⟨u, w', hr, h2, h3, h4⟩ := app_b (h.row8 hj) hs hn h.fin.size ty
 have hk : ∀ b C U, Blk w b C U → U ≠ 5 → Blk w' b C U := fun b C U hb hU => h3.blk hb (fun e => OwnB.ne (h.row8 hj) hb hU b e rfl)
 obtain ⟨G, h'⟩ := id h
 have hb : Blk w M.b8 (gridC M.V8) 64 := (h'.1.mem (blkTh M.b8 (gridC M.V8) 64) (by unfold acRest; simp)).1
 have hb2 := hk _ _ _ hb (by decide)
 obtain ⟨a, c, rfl, -⟩ := byts_val h2.byts
 exact ⟨a, _, c, w', hr, hb2.free j, hb2.cellAt j (grid_get _ hj), hk, h.set8 hj h2 h4 h3⟩
theorem acApp9 {W w : World} {ex : List Th} {M : AcMem} {T : Nat → Tb} {L8 L9 : Nat → List UInt8} {ids : Nat → List Int} (h : AcAt W w ex M T L8 L9 ids) {j : Nat} (hj : j < 6) {sv : Value} {news : List UInt8} (hs : Byts w sv news) (hn : (L9 j).length + news.length ≤ 1000000) (ty : TypeId) :
  ∃ a n c w', (Builtin.append_ #[42, 42] ty #[M.V9 j, sv]).run Tryz.prog w = .ok (.slice a n c) w' ∧ w'.frozen? ⟨M.b9, j, none⟩ = false ∧ w'.cell? ⟨M.b9, j, none⟩ = some (M.V9 j) ∧ (∀ b C U, Blk w b C U → U ≠ 5 → Blk w' b C U) ∧ AcAt W (w'.setCell ⟨M.b9, j, none⟩ (.slice a n c)) ex { M with V9 := upd2 M.V9 j (.slice a n c) } T L8 (upd2 L9 j (L9 j ++ news)) ids := by
 obtain ⟨u, w', hr, h2, h3, h4⟩ := app_b (h.row9 hj) hs hn h.fin.size ty
 have hk : ∀ b C U, Blk w b C U → U ≠ 5 → Blk w' b C U := fun b C U hb hU => h3.blk hb (fun e => OwnB.ne (h.row9 hj) hb hU b e rfl)
 obtain ⟨G, h'⟩ := id h
 have hb : Blk w M.b9 (gridC M.V9) 64 := (h'.1.mem (blkTh M.b9 (gridC M.V9) 64) (by unfold acRest; simp)).1
 have hb2 := hk _ _ _ hb (by decide)
 obtain ⟨a, c, rfl, -⟩ := byts_val h2.byts
 exact ⟨a, _, c, w', hr, hb2.free j, hb2.cellAt j (grid_get _ hj), hk, h.set9 hj h2 h4 h3⟩
theorem step_load {w : World} {b o : Nat} {s : StepV} (h : w.rangeAt b o (stepL s)) : (Instr.loadAt 44 (.pointer (some ⟨b, o, none⟩))).run Tryz.prog w = .ok (.agg #[.int .i64 s.k, .int .i64 s.w, .int .i64 s.p, .int .i64 s.n, s.v, .int .u16 s.lost]) w :=
 run_loadAt_mid w b o 44 (stepL s) _ h Tryz.underlying44 rfl (by kernel_rfl)
def AcR (W w : World) (ex : List Th) (bx b8 : Nat) (tb mb : Nat → Nat) (VI : Nat → Value) (pd : Nat → Nat) (ids : Nat → List Int) (N : Nat) : Prop :=
 ∃ V8 V9 T L8 L9 wr rd, AcAt W w ex ⟨bx, tb, mb, b8, b8 + 1, b8 + 1 + 1, V8, V9, VI⟩ T L8 L9 ids ∧ AcI N pd ids T wr rd ∧ Rows L8 ids wr ∧ Rows L9 ids rd
theorem AcR.start {p q : Pm} {W w : World} {ex : List Th} {bx b8 : Nat} {tb mb : Nat → Nat} {VI : Nat → Value} {T : Nat → Tb} {ids : Nat → List Int} {bd : Nat → Nat} (h : AcAt W w ex ⟨bx, tb, mb, b8, b8 + 1, b8 + 1 + 1, nil3, nil3, VI⟩ T (fun _ => []) (fun _ => []) ids) (ho : AcO p q ids T bd) (hb : ∀ v, v < 2 → bd v ≤ 3) (hp : p.s ≤ 5000) (hq : q.s ≤ 5000) : AcR W w ex bx b8 tb mb VI (fun v => if v = 0 then p.d else q.d) ids 0 :=
 ⟨_, _, _, _, _, _, _, h, ho.done hb hp hq, Rows.start _, Rows.start _⟩
theorem AcI.more {N N' : Nat} {pd : Nat → Nat} {ids : Nat → List Int} {T : Nat → Tb} {wr rd : Nat → Int → List UInt8} (I : AcI N pd ids T wr rd) (hN : N ≤ N') : AcI N' pd ids T wr rd := ⟨I.pair, fun v hv => (I.cnt v hv).more hN⟩
end Go.Proofs.YtolgeghdkoodnaaGreatDoor
set_option maxRecDepth 100000
namespace Go.Proofs.YtolgeghdkoodnaaGreatDoor
open Go.RowKit Go.Maps
section
variable {W w : World} {ex : List Th} {bx b8 : Nat} {tb mb : Nat → Nat} {VI : Nat → Value} {pd : Nat → Nat} {ids : Nat → List Int} {N v k id : Nat}
theorem AcR.still {w' : World} (h : AcR W w ex bx b8 tb mb VI pd ids N) (hM : Mod (fun _ => False) w w') : AcR W w' ex bx b8 tb mb VI pd ids N := by
 obtain ⟨V8, V9, T, L8, L9, wr, rd, h1, h2⟩ := h
 exact ⟨V8, V9, T, L8, L9, wr, rd, h1.still hM, h2⟩
theorem AcR.more {N' : Nat} (h : AcR W w ex bx b8 tb mb VI pd ids N) (hN : N ≤ N') : AcR W w ex bx b8 tb mb VI pd ids N' := by
 obtain ⟨V8, V9, T, L8, L9, wr, rd, h1, h2, h3⟩ := h
 exact ⟨V8, V9, T, L8, L9, wr, rd, h1, h2.more hN, h3⟩
theorem AcR.drop {o : Th} (h : AcR W w (o :: ex) bx b8 tb mb VI pd ids N) : AcR W w ex bx b8 tb mb VI pd ids N := by
 obtain ⟨V8, V9, T, L8, L9, wr, rd, h1, h2⟩ := h
 exact ⟨V8, V9, T, L8, L9, wr, rd, h1.drop, h2⟩
theorem AcR.new (h : AcR W w ex bx b8 tb mb VI pd ids N) (C : Array Value) (ty : TypeId) : AcR W (w.alloc (.cells C ty)) (blkTh w.heap.size C ty :: ex) bx b8 tb mb VI pd ids N := by
 obtain ⟨V8, V9, T, L8, L9, wr, rd, h1, h2⟩ := h
 exact ⟨V8, V9, T, L8, L9, wr, rd, h1.new C ty, h2⟩
theorem AcR.get (l : List Th) {o : Th} {m : List Th} (h : AcR W w (l ++ o :: m) bx b8 tb mb VI pd ids N) : o.P w := by
 obtain ⟨V8, V9, T, L8, L9, wr, rd, h1, h2⟩ := h
 exact h1.get l
theorem AcR.fin (h : AcR W w ex bx b8 tb mb VI pd ids N) : Mod (fun _ => False) W w := by
 obtain ⟨V8, V9, T, L8, L9, wr, rd, h1, h2⟩ := h
 exact h1.fin
theorem AcR.xcell (h : AcR W w ex bx b8 tb mb VI pd ids N) (hv : v < 2) : w.cell? ⟨bx, v, none⟩ = some (.pointer (some ⟨tb v, 0, none⟩)) := by
 obtain ⟨V8, V9, T, L8, L9, wr, rd, h1, h2⟩ := h
 exact h1.xcell hv
theorem AcR.idsV (h : AcR W w ex bx b8 tb mb VI pd ids N) (hv : v < 2) : ∃ a c, VI v = .slice a (ids v).length c ∧ (ids v).length ≤ 3 ∧ w.cell? ⟨b8 + 1 + 1, v, none⟩ = some (.slice a (ids v).length c) ∧ ((ids v).length ≠ 0 → ∃ g, a = some ⟨g, 0, none⟩) := by
 obtain ⟨V8, V9, T, L8, L9, wr, rd, h1, h2, -⟩ := h
 obtain ⟨a, c, e, h3⟩ := h1.idval hv
 have e' : VI v = .slice a (ids v).length c := e
 refine ⟨a, c, e', h2.few hv, ?_, h3⟩
 have := h1.b10cell hv
 rw [← e']
 exact this
theorem AcR.idC (h : AcR W w ex bx b8 tb mb VI pd ids N) (hv : v < 2) {g n c : Nat} (e : VI v = .slice (some ⟨g, 0, none⟩) n c) (hk : k < (ids v).length) : ∃ id : Nat, (ids v)[k]? = some (id : Int) ∧ w.cell? ⟨g, k, none⟩ = some (.int .u64 (id : Int)) := by
 obtain ⟨V8, V9, T, L8, L9, wr, rd, h1, h2, -⟩ := h
 obtain ⟨z, hz⟩ : ∃ z, (ids v)[k]? = some z := ⟨_, List.getElem?_eq_getElem hk⟩
 obtain ⟨id, rfl, -, -⟩ := h2.idn hv hz
 exact ⟨id, hz, h1.idcell hv e hz⟩
def AcW (W w : World) (ex : List Th) (bx b8 : Nat) (tb mb : Nat → Nat) (VI : Nat → Value) (pd : Nat → Nat) (ids : Nat → List Int) (N v k : Nat) (news : List UInt8) : Prop :=
 ∃ V8 V9 T L8 L9 wr rd, ∃ id : Nat, AcAt W w ex ⟨bx, tb, mb, b8, b8 + 1, b8 + 1 + 1, V8, V9, VI⟩ T L8 L9 ids ∧ (ids v)[k]? = some (id : Int) ∧ AcI N pd ids T (upd2 wr v (updR (wr v) id (wr v id ++ news))) rd ∧ Rows L8 ids wr ∧ Rows L9 ids rd ∧ (L8 (v * 3 + k)).length ≤ 2000
theorem AcR.write (h : AcR W w ex bx b8 tb mb VI pd ids N) (hv : v < 2) (hz : (ids v)[k]? = some (id : Int)) {dv : Value} {data : List UInt8} (hd : Byts w dv data) (hdl : data.length ≤ 300) :
  Calls Tryz.prog 14 #[.pointer (some ⟨tb v, 0, none⟩), .int .u64 (id : Int), dv] w fun e w' => ∃ (n : Nat) (x : Value), e = .returned (.tuple #[.int .i64 (n : Int), x]) ∧ n ≤ data.length ∧ AcW W w' ex bx b8 tb mb VI pd ids N v k (data.take n) := by
 obtain ⟨V8, V9, T, L8, L9, wr, rd, h1, h2, h3, h4⟩ := h
 have hk : k < 3 := by
  have := (List.getElem?_eq_some_iff.1 hz).1
  have := h2.few hv
  omega
 refine (acWrite_s h1 h2 hv (List.mem_of_getElem? hz) hd hdl).mono ?_
 rintro e w' ⟨T', n, x, rfl, hn, h5, h6⟩
 refine ⟨n, x, rfl, hn, V8, V9, T', L8, L9, wr, rd, id, h5, hz, h6, h3, h4, ?_⟩
 rw [Nat.mul_comm]
 exact (h2.test h3 h4 hv hk).2.2
theorem AcW.still {w' : World} {news : List UInt8} (h : AcW W w ex bx b8 tb mb VI pd ids N v k news) (hM : Mod (fun _ => False) w w') : AcW W w' ex bx b8 tb mb VI pd ids N v k news := by
 obtain ⟨V8, V9, T, L8, L9, wr, rd, id, h1, h2⟩ := h
 exact ⟨V8, V9, T, L8, L9, wr, rd, id, h1.still hM, h2⟩
theorem AcW.get (l : List Th) {o : Th} {m : List Th} {news : List UInt8} (h : AcW W w (l ++ o :: m) bx b8 tb mb VI pd ids N v k news) : o.P w := by
 obtain ⟨V8, V9, T, L8, L9, wr, rd, id, h1, h2⟩ := h
 exact h1.get l
theorem AcW.fin {news : List UInt8} (h : AcW W w ex bx b8 tb mb VI pd ids N v k news) : Mod (fun _ => False) W w := by
 obtain ⟨V8, V9, T, L8, L9, wr, rd, id, h1, h2⟩ := h
 exact h1.fin
theorem AcW.xcell {u : Nat} {news : List UInt8} (h : AcW W w ex bx b8 tb mb VI pd ids N v k news) (hv : u < 2) : w.cell? ⟨bx, u, none⟩ = some (.pointer (some ⟨tb u, 0, none⟩)) := by
 obtain ⟨V8, V9, T, L8, L9, wr, rd, id, h1, h2⟩ := h
 exact h1.xcell hv
theorem AcW.app {news : List UInt8} (h : AcW W w ex bx b8 tb mb VI pd ids N v k news) (hv : v < 2) {sv : Value} (hs : Byts w sv news) (hn : news.length ≤ 300) (ty : TypeId) :
  ∃ ca cn cc a n c w', w.cell? ⟨b8, v * 3 + k, none⟩ = some (.slice ca cn cc) ∧ (Builtin.append_ #[42, 42] ty #[.slice ca cn cc, sv]).run Tryz.prog w = .ok (.slice a n c) w' ∧ w'.frozen? ⟨b8, v * 3 + k, none⟩ = false ∧ w'.cell? ⟨b8, v * 3 + k, none⟩ = some (.slice ca cn cc) ∧ (∀ b C U, Blk w b C U → U ≠ 5 → Blk w' b C U) ∧ AcR W (w'.setCell ⟨b8, v * 3 + k, none⟩ (.slice a n c)) ex bx b8 tb mb VI pd ids N := by
 obtain ⟨V8, V9, T, L8, L9, wr, rd, id, h1, hz, h2, h3, h4, h5⟩ := h
 have hk : k < 3 := by
  have := (List.getElem?_eq_some_iff.1 hz).1
  have := h2.few hv
  omega
 have hj : v * 3 + k < 6 := by omega
 obtain ⟨a, n, c, w', hr, e1, e2, e3, e4⟩ := acApp8 h1 hj hs (by omega) ty
 have ec := h1.cell8 hj
 obtain ⟨ca, cc, eo, -⟩ := byts_val (h1.row8 hj).byts
 simp only at hr e2 ec eo
 rw [eo] at hr e2 ec
 refine ⟨ca, _, cc, a, n, c, w', ec, hr, e1, e2, e3, _, V9, T, _, L9, _, rd, e4, h2, ?_, h4⟩
 have he : L8 (v * 3 + k) = wr v id := by rw [Nat.mul_comm]; exact h3.at hv hk hz
 rw [he]
 have := h3.set hv hk hz (h2.nod hv) (wr v id ++ news)
 rw [Nat.mul_comm] at this
 exact this
def AcD (W w : World) (ex : List Th) (bx b8 : Nat) (tb mb : Nat → Nat) (VI : Nat → Value) (pd : Nat → Nat) (ids : Nat → List Int) (N v k : Nat) (news : List UInt8) : Prop :=
 ∃ V8 V9 T L8 L9 wr rd, ∃ id : Nat, AcAt W w ex ⟨bx, tb, mb, b8, b8 + 1, b8 + 1 + 1, V8, V9, VI⟩ T L8 L9 ids ∧ (ids v)[k]? = some (id : Int) ∧ AcI N pd ids T wr (upd2 rd v (updR (rd v) id (rd v id ++ news))) ∧ Rows L8 ids wr ∧ Rows L9 ids rd ∧ (L9 (v * 3 + k)).length ≤ 2000 ∧ news.length ≤ 2000
theorem AcR.read (h : AcR W w ex bx b8 tb mb VI pd ids N) (hN : N ≤ 1000000) (hv : v < 2) (hz : (ids v)[k]? = some (id : Int)) (n : Int) (hn : n ≤ 3000) :
  Calls Tryz.prog 20 #[.pointer (some ⟨tb (1 - v), 0, none⟩), .int .u64 (id : Int), .int .i64 n] w fun e w' => ∃ a c x y l, e = .returned (.tuple #[.slice a (l : List UInt8).length c, x, y]) ∧ AcD W w' (rowTh W.heap.size (.slice a l.length c) l :: ex) bx b8 tb mb VI pd ids (N + 2000) v k l := by
 obtain ⟨V8, V9, T, L8, L9, wr, rd, h1, h2, h3, h4⟩ := h
 have hk : k < 3 := by
  have := (List.getElem?_eq_some_iff.1 hz).1
  have := h2.few hv
  omega
 refine (acRead_s h1 h2 hN hv (List.mem_of_getElem? hz) n hn).mono ?_
 rintro e w' ⟨T', a, c, x, y, l, rfl, h5, h6, h7⟩
 refine ⟨a, c, x, y, l, rfl, V8, V9, T', L8, L9, wr, rd, id, h5, hz, h6, h3, h4, ?_, h7⟩
 rw [Nat.mul_comm]
 have := (h2.test h3 h4 hv hk).2
 omega
theorem AcD.still {w' : World} {news : List UInt8} (h : AcD W w ex bx b8 tb mb VI pd ids N v k news) (hM : Mod (fun _ => False) w w') : AcD W w' ex bx b8 tb mb VI pd ids N v k news := by
 obtain ⟨V8, V9, T, L8, L9, wr, rd, id, h1, h2⟩ := h
 exact ⟨V8, V9, T, L8, L9, wr, rd, id, h1.still hM, h2⟩
theorem AcD.get (l : List Th) {o : Th} {m : List Th} {news : List UInt8} (h : AcD W w (l ++ o :: m) bx b8 tb mb VI pd ids N v k news) : o.P w := by
 obtain ⟨V8, V9, T, L8, L9, wr, rd, id, h1, h2⟩ := h
 exact h1.get l
theorem AcD.xcell {u : Nat} {news : List UInt8} (h : AcD W w ex bx b8 tb mb VI pd ids N v k news) (hv : u < 2) : w.cell? ⟨bx, u, none⟩ = some (.pointer (some ⟨tb u, 0, none⟩)) := by
 obtain ⟨V8, V9, T, L8, L9, wr, rd, id, h1, h2⟩ := h
 exact h1.xcell hv
theorem AcD.app {news : List UInt8} {a : Option Addr} {c : Nat} (h : AcD W w (rowTh W.heap.size (.slice a news.length c) news :: ex) bx b8 tb mb VI pd ids N v k news) (hv : v < 2) (ty : TypeId) :
  ∃ ca cn cc a2 n2 c2 w', w.cell? ⟨b8 + 1, v * 3 + k, none⟩ = some (.slice ca cn cc) ∧ (Builtin.append_ #[42, 42] ty #[.slice ca cn cc, .slice a news.length c]).run Tryz.prog w = .ok (.slice a2 n2 c2) w' ∧ w'.frozen? ⟨b8 + 1, v * 3 + k, none⟩ = false ∧ w'.cell? ⟨b8 + 1, v * 3 + k, none⟩ = some (.slice ca cn cc) ∧ AcR W (w'.setCell ⟨b8 + 1, v * 3 + k, none⟩ (.slice a2 n2 c2)) ex bx b8 tb mb VI pd ids N := by
 obtain ⟨V8, V9, T, L8, L9, wr, rd, id, h1, hz, h2, h3, h4, h5, h6⟩ := h
 have hk : k < 3 := by
  have := (List.getElem?_eq_some_iff.1 hz).1
  have := h2.few hv
  omega
 have hj : v * 3 + k < 6 := by omega
 obtain ⟨a2, n2, c2, w', hr, e1, e2, e3, e4⟩ := acApp9 h1 hj (OwnB.byts (h1.get [])) (by omega) ty
 have ec := h1.cell9 hj
 obtain ⟨ca, cc, eo, -⟩ := byts_val (h1.row9 hj).byts
 simp only at hr e2 ec eo
 rw [eo] at hr e2 ec
 refine ⟨ca, _, cc, a2, n2, c2, w', ec, hr, e1, e2, V8, _, T, L8, _, wr, _, e4.drop, h2, h3, ?_⟩
 have he : L9 (v * 3 + k) = rd v id := by rw [Nat.mul_comm]; exact h4.at hv hk hz
 rw [he]
 have := h4.set hv hk hz (h2.nod hv) (rd v id ++ news)
 rw [Nat.mul_comm] at this
 exact this
theorem AcR.finish (h : AcR W w ex bx b8 tb mb VI pd ids N) (hv : v < 2) (hz : (ids v)[k]? = some (id : Int)) :
  Calls Tryz.prog 22 #[.pointer (some ⟨tb v, 0, none⟩), .int .u64 (id : Int)] w fun e w' => ∃ x, e = .returned x ∧ AcR W w' ex bx b8 tb mb VI pd ids N := by
 obtain ⟨V8, V9, T, L8, L9, wr, rd, h1, h2, h3⟩ := h
 refine (acFinish_s h1 h2 hv (List.mem_of_getElem? hz)).mono ?_
 rintro e w' ⟨T', x, rfl, h5, h6⟩
 exact ⟨x, rfl, V8, V9, T', L8, L9, wr, rd, h5, h6, h3⟩
def AcF (W w : World) (ex : List Th) (bx b8 : Nat) (tb mb : Nat → Nat) (VI : Nat → Value) (pd : Nat → Nat) (ids : Nat → List Int) (N v D E : Nat) (a : Option Addr) (n c : Nat) (L : List Fr) (F : List Value) : Prop :=
 ∃ V8 V9 T L8 L9 wr rd, AcAt W w (fscTh D E (.slice a n c) L F :: ex) ⟨bx, tb, mb, b8, b8 + 1, b8 + 1 + 1, V8, V9, VI⟩ T L8 L9 ids ∧ AcI N pd ids T wr rd ∧ Rows L8 ids wr ∧ Rows L9 ids rd ∧ ∀ f ∈ L, FAny (T v) (ids v) (ids (1 - v)) f
theorem AcR.frames (h : AcR W w ex bx b8 tb mb VI pd ids N) (hT : Tabs W) (hv : v < 2) (room : Int) (hr : -9223372036854775808 ≤ room ∧ room ≤ 3000) :
  Calls Tryz.prog 15 #[.pointer (some ⟨tb v, 0, none⟩), .int .i64 room] w fun e w' => ∃ a c D E L F, e = .returned (.slice a (L : List Fr).length c) ∧ AcF W w' ex bx b8 tb mb VI pd ids N v D E a L.length c L F ∧ (L.length : Int) ≤ 90000 := by
 obtain ⟨V8, V9, T, L8, L9, wr, rd, h1, h2, h3, h4⟩ := h
 refine (acFrames_s h1 hT h2 hv room hr).mono ?_
 rintro e w' ⟨T', a, c, D, E, L, rfl, h5, h6, h7, h8⟩
 obtain ⟨F, hF⟩ := h5.told
 exact ⟨a, c, D, E, L, F, rfl, ⟨V8, V9, T', L8, L9, wr, rd, hF, h6, h3, h4, h7⟩, h8⟩
section
variable {D E n c : Nat} {a : Option Addr} {L : List Fr} {F : List Value}
theorem AcF.still {w' : World} (h : AcF W w ex bx b8 tb mb VI pd ids N v D E a n c L F) (hM : Mod (fun _ => False) w w') : AcF W w' ex bx b8 tb mb VI pd ids N v D E a n c L F := by
 obtain ⟨V8, V9, T, L8, L9, wr, rd, h1, h2⟩ := h
 exact ⟨V8, V9, T, L8, L9, wr, rd, h1.still hM, h2⟩
theorem AcF.get (l : List Th) {o : Th} {m : List Th} (h : AcF W w (l ++ o :: m) bx b8 tb mb VI pd ids N v D E a n c L F) : o.P w := by
 obtain ⟨V8, V9, T, L8, L9, wr, rd, h1, h2⟩ := h
 exact h1.drop.get l
theorem AcF.fin (h : AcF W w ex bx b8 tb mb VI pd ids N v D E a n c L F) : Mod (fun _ => False) W w := by
 obtain ⟨V8, V9, T, L8, L9, wr, rd, h1, h2⟩ := h
 exact h1.fin
theorem AcF.xcell {u : Nat} (h : AcF W w ex bx b8 tb mb VI pd ids N v D E a n c L F) (hv : u < 2) : w.cell? ⟨bx, u, none⟩ = some (.pointer (some ⟨tb u, 0, none⟩)) := by
 obtain ⟨V8, V9, T, L8, L9, wr, rd, h1, h2⟩ := h
 exact h1.xcell hv
theorem AcF.out (h : AcF W w ex bx b8 tb mb VI pd ids N v D E a n c L F) : AcR W w ex bx b8 tb mb VI pd ids N := by
 obtain ⟨V8, V9, T, L8, L9, wr, rd, h1, h2, h3, h4, h5⟩ := h
 exact ⟨V8, V9, T, L8, L9, wr, rd, h1.drop, h2, h3, h4⟩
theorem AcF.dl {i : Nat} {f : Fr} (h : AcF W w ex bx b8 tb mb VI pd ids N v D E a n c L F) (hv : v < 2) (hi : L[i]? = some f) : (f.d.length : Int) ≤ 1000000 := by
 obtain ⟨V8, V9, T, L8, L9, wr, rd, h1, h2, h3, h4, h5⟩ := h
 have := FAny.len (h2.pair v hv) (h5 f (List.mem_of_getElem? hi))
 omega
theorem AcF.frame {i : Nat} {f : Fr} (h : AcF W w ex bx b8 tb mb VI pd ids N v D E a n c L F) (hv : v < 2) (hi : L[i]? = some f) :
  ∃ g vd, a = some ⟨g, 0, none⟩ ∧ F[i * 24 + 6]? = some vd ∧ (Instr.loadAt 52 (.pointer (some ⟨g, i * 24, none⟩))).run Tryz.prog w = .ok (.agg (frC f vd nilS)) w := by
 have hd := h.dl hv hi
 obtain ⟨V8, V9, T, L8, L9, wr, rd, h1, h2⟩ := h
 obtain ⟨g, vd, e, h3, h4, h5⟩ := h1.frameC hi hd
 exact ⟨g, vd, e, h3, h5⟩
theorem AcF.frame2 {i g : Nat} {f : Fr} {vd : Value} (h : AcF W w ex bx b8 tb mb VI pd ids N v D E (some ⟨g, 0, none⟩) n c L F) (hv : v < 2) (hi : L[i]? = some f) (hf : F[i * 24 + 6]? = some vd) :
  (Instr.loadAt 52 (.pointer (some ⟨g, i * 24, none⟩))).run Tryz.prog w = .ok (.agg (frC f vd nilS)) w := by
 have hd := h.dl hv hi
 obtain ⟨V8, V9, T, L8, L9, wr, rd, h1, h2⟩ := h
 exact (h1.frameC2 hi hd hf).2
theorem AcF.lost {i g : Nat} {f : Fr} {vd : Value} (h : AcF W w ex bx b8 tb mb VI pd ids N v D E (some ⟨g, 0, none⟩) n c L F) (hv : v < 2) (hi : L[i]? = some f) (hf : F[i * 24 + 6]? = some vd) :
  Calls Tryz.prog 23 #[.pointer (some ⟨tb v, 0, none⟩), .agg (frC f vd nilS)] w fun e w' => e = .returned (.tuple #[]) ∧ AcF W w' ex bx b8 tb mb VI pd ids N v D E (some ⟨g, 0, none⟩) n c L F := by
 have hd := h.dl hv hi
 obtain ⟨V8, V9, T, L8, L9, wr, rd, h1, h2, h3, h4, h5⟩ := h
 refine (acLost_s h1 h2 hv (h5 f (List.mem_of_getElem? hi)) (h1.frameC2 hi hd hf).1).mono ?_
 rintro e w' ⟨T', rfl, h6, h7, h8⟩
 exact ⟨rfl, V8, V9, T', L8, L9, wr, rd, h6, h7, h3, h4, fun x hx => h8 x (h5 x hx)⟩
theorem AcF.acked {i g : Nat} {f : Fr} {vd : Value} (h : AcF W w ex bx b8 tb mb VI pd ids N v D E (some ⟨g, 0, none⟩) n c L F) (hv : v < 2) (hi : L[i]? = some f) (hf : F[i * 24 + 6]? = some vd) :
  Calls Tryz.prog 24 #[.pointer (some ⟨tb v, 0, none⟩), .agg (frC f vd nilS)] w fun e w' => e = .returned (.tuple #[]) ∧ AcF W w' ex bx b8 tb mb VI pd ids N v D E (some ⟨g, 0, none⟩) n c L F := by
 have hd := h.dl hv hi
 obtain ⟨V8, V9, T, L8, L9, wr, rd, h1, h2, h3, h4, h5⟩ := h
 refine (acAcked_s h1 h2 hv (h5 f (List.mem_of_getElem? hi)) (h1.frameC2 hi hd hf).1).mono ?_
 rintro e w' ⟨T', rfl, h6, h7, h8⟩
 exact ⟨rfl, V8, V9, T', L8, L9, wr, rd, h6, h7, h3, h4, fun x hx => h8 x (h5 x hx)⟩
theorem AcF.take {i g : Nat} {f : Fr} {vd : Value} (h : AcF W w ex bx b8 tb mb VI pd ids N v D E (some ⟨g, 0, none⟩) n c L F) (hv : v < 2) (hi : L[i]? = some f) (hf : F[i * 24 + 6]? = some vd) :
  Calls Tryz.prog 17 #[.pointer (some ⟨tb (1 - v), 0, none⟩), .agg (frC f vd nilS)] w fun e w' => e = .returned (.int .i64 0) ∧ AcF W w' ex bx b8 tb mb VI pd ids N v D E (some ⟨g, 0, none⟩) n c L F := by
 have hd := h.dl hv hi
 obtain ⟨V8, V9, T, L8, L9, wr, rd, h1, h2, h3, h4, h5⟩ := h
 refine (acTake_s h1 h2 hv (h5 f (List.mem_of_getElem? hi)) (h1.frameC2 hi hd hf).1).mono ?_
 rintro e w' ⟨T', rfl, h6, h7, h8⟩
 exact ⟨rfl, V8, V9, T', L8, L9, wr, rd, h6, h7, h3, h4, fun x hx => by rw [h8]; exact h5 x hx⟩
end
theorem AcR.test (h : AcR W w ex bx b8 tb mb VI pd ids N) (hv : v < 2) (hk : k < 3) :
  ∃ a8 n8 c8 a9 n9 c9 l, w.cell? ⟨b8, v * 3 + k, none⟩ = some (.slice a8 n8 c8) ∧ w.cell? ⟨b8 + 1, v * 3 + k, none⟩ = some (.slice a9 n9 c9) ∧ n9 ≤ n8 ∧ n8 ≤ 2000 ∧ n8 ≤ c8 ∧ (n8 ≠ 0 → ∃ g, a8 = some ⟨g, 0, none⟩) ∧ Byts w (.slice a9 n9 c9) l ∧ Byts w (.slice a8 n9 c8) l := by
 obtain ⟨V8, V9, T, L8, L9, wr, rd, h1, h2, h3, h4⟩ := h
 have hj : v * 3 + k < 6 := by omega
 obtain ⟨t1, t2, t3⟩ := h2.test h3 h4 hv hk
 rw [Nat.mul_comm] at t1 t2 t3
 have o8 := h1.row8 hj
 have o9 := h1.row9 hj
 obtain ⟨a8, c8, e8, -⟩ := byts_val o8.byts
 obtain ⟨a9, c9, e9, -⟩ := byts_val o9.byts
 have c1 := h1.cell8 hj
 have c2 := h1.cell9 hj
 simp only at e8 e9 c1 c2
 rw [e8] at c1
 rw [e9] at c2
 have b8' := o8.byts
 have b9' := o9.byts
 simp only at b8' b9'
 rw [e8] at b8'
 rw [e9] at b9'
 have hb := byts_takeO b8' t2
 rw [← t1] at hb
 refine ⟨a8, _, c8, a9, _, c9, _, c1, c2, t2, t3, ?_, ?_, b9', hb⟩
 ·obtain ⟨-, a', cap', he, g2, -⟩ := b8'
  simp only [Value.slice.injEq] at he
  obtain ⟨rfl, -, rfl⟩ := he
  exact g2
 ·intro hn
  rcases o8.2 with ⟨e0, h0⟩ | ⟨g, cap, cur, e0, -⟩
  ·exact absurd h0 hn
  ·simp only at e0
   rw [e8] at e0
   simp only [Value.slice.injEq] at e0
   exact ⟨g, e0.1⟩
end
end Go.Proofs.YtolgeghdkoodnaaGreatDoor
set_option maxRecDepth 100000
namespace Go.Proofs.YtolgeghdkoodnaaGreatDoor
open Go.RowKit Go.Maps
theorem Mod.none_belowX {w w' : World} (h : Mod (fun _ => False) w w') : Below w.heap.size w w' := h.below (Nat.le_refl _) (fun _ _ h => h.elim)
theorem blk_load_pm {w : World} {b : Nat} {p : Pm} (h : Blk w b (pmC p) 29) (h16 : p.t.length = 16) : (Instr.loadAt 29 (.pointer (some ⟨b, 0, none⟩))).run Tryz.prog w = .ok (.agg (pmC p)) w :=
 run_loadAt_mid w b 0 29 (pmC p).toList _ h.whole Tryz.underlying29 rfl (size25 p h16)
theorem refmay_c {p : Pm} (h : p.t.length = 16) (w : World) : Calls Tryz.prog 13 #[.agg (pmC p)] w fun e w' => e = .returned (.bool (mayB p)) ∧ Mod (fun _ => False) w w' := refmay_any h w
end Go.Proofs.YtolgeghdkoodnaaGreatDoor
