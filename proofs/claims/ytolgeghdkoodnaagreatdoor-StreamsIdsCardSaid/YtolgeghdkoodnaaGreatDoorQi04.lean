/- Parts of the proof: SyA SyB. -/
import Derived.Test.YtolgeghdkoodnaaGreatDoorQ04
import Derived.Test.YtolgeghdkoodnaaGreatDoorQ25
import Derived.Test.YtolgeghdkoodnaaGreatDoorQi03
set_option maxRecDepth 100000
namespace Go.Proofs.YtolgeghdkoodnaaGreatDoor
open Go.RowKit Go.Maps
theorem Mod.none_belowY {w w' : World} (h : Mod (fun _ => False) w w') : Below w.heap.size w w' := h.below (Nat.le_refl _) (fun _ _ h => h.elim)
structure RI (c : Bool) (n : Bool → Nat) (T : Tb) : Prop where
 client : T.client = c
 lim : ∀ b, limN T b = 8
 op : ∀ b, opN T (kindN c b) = n b
 le : ∀ b, n b ≤ 8
 len : T.dom.length = n false + n true
 dom : ∀ z ∈ T.dom, ∃ b j, z = ((4 * j + kindN c b : Nat) : Int) ∧ j < n b
def upN (n : Bool → Nat) (b : Bool) : Bool → Nat := fun x => if x = b then n b + 1 else n x
theorem kind_lt (c b : Bool) : kindN c b < 4 := by cases c <;> cases b <;> decide
theorem kind_inj {c b b' : Bool} (h : kindN c b = kindN c b') : b = b' := by cases c <;> cases b <;> cases b' <;> first | rfl | (exact absurd h (by decide))
theorem RI.fresh {c : Bool} {n : Bool → Nat} {T : Tb} (h : RI c n T) (b : Bool) : (openId T b : Int) ∉ T.dom := by
 intro hz
 obtain ⟨b', j, e, hj⟩ := h.dom _ hz
 have e1 : openId T b = 4 * n b + kindN c b := by unfold openId; rw [h.client, h.op]
 rw [e1] at e
 have k1 := kind_lt c b
 have k2 := kind_lt c b'
 have e2 : 4 * n b + kindN c b = 4 * j + kindN c b' := by omega
 have e3 : kindN c b = kindN c b' := by omega
 have := kind_inj e3
 subst this
 omega
theorem op_set (T : Tb) (k v : Nat) (hk : k < 4) (k' : Nat) (hk' : k' < 4) : opN (setOp T k v) k' = if k' = k then v else opN T k' := by
 obtain rfl | rfl | rfl | rfl : k = 0 ∨ k = 1 ∨ k = 2 ∨ k = 3 := by omega
 all_goals (obtain rfl | rfl | rfl | rfl : k' = 0 ∨ k' = 1 ∨ k' = 2 ∨ k' = 3 := by omega) <;> rfl
theorem RI.opened {c : Bool} {n : Bool → Nat} {T : Tb} (h : RI c n T) {b : Bool} (hb : n b < 8) : RI c (upN n b) (openT T b) ∧ openV T b = kindN c b + 4 * n b ∧ opE T b = 0 := by
 have hok : openOk T b = true := by
  unfold openOk
  rw [h.client, h.op, h.lim]
  exact decide_eq_true hb
 have e1 : openId T b = 4 * n b + kindN c b := by unfold openId; rw [h.client, h.op]
 have hf := h.fresh b
 refine ⟨?_, by unfold openV; rw [if_pos hok, e1]; omega, by unfold opE; rw [if_pos hok]⟩
 unfold openT
 rw [if_pos hok]
 have hs : ∀ k v, (setOp T k v).client = T.client ∧ (setOp T k v).dom = T.dom ∧ (∀ b, limN (setOp T k v) b = limN T b) := fun k v => by
  unfold setOp
  split
  ·exact ⟨rfl, rfl, fun _ => rfl⟩
  ·split
   ·exact ⟨rfl, rfl, fun _ => rfl⟩
   ·split
    ·exact ⟨rfl, rfl, fun _ => rfl⟩
    ·exact ⟨rfl, rfl, fun _ => rfl⟩
 obtain ⟨s1, s2, s3⟩ := hs (kindN T.client b) (opN T (kindN T.client b) + 1)
 have hd : (mkT (setOp T (kindN T.client b) (opN T (kindN T.client b) + 1)) (openId T b)).dom = T.dom ++ [(openId T b : Int)] := by
  show putD _ (setOp T _ _).dom = _
  rw [s2]
  unfold putD
  rw [if_neg hf]
 refine ⟨s1.trans h.client, fun x => (s3 x).trans (h.lim x), fun x => ?_, fun x => ?_, ?_, ?_⟩
 ·show opN (setOp T (kindN T.client b) (opN T (kindN T.client b) + 1)) (kindN c x) = _
  rw [h.client, op_set _ _ _ (kind_lt c b) _ (kind_lt c x), h.op]
  unfold upN
  by_cases e : x = b
  ·subst e; rw [if_pos rfl, if_pos rfl]
  ·rw [if_neg (fun e2 => e (kind_inj e2)), if_neg e, h.op]
 ·unfold upN
  have := h.le x
  split <;> omega
 ·rw [hd, List.length_append, List.length_singleton, h.len]
  unfold upN
  cases b <;> simp <;> omega
 ·intro z hz
  rw [hd] at hz
  rcases List.mem_append.1 hz with e | e
  ·obtain ⟨b', j, e2, hj⟩ := h.dom z e
   refine ⟨b', j, e2, ?_⟩
   unfold upN
   split
   ·rename_i e3; subst e3; omega
   ·exact hj
  ·have := List.mem_singleton.1 e
   refine ⟨b, n b, by rw [this, e1], ?_⟩
   unfold upN
   rw [if_pos rfl]
   omega
theorem RI.full {c : Bool} {n : Bool → Nat} {T : Tb} (h : RI c n T) {b : Bool} (hb : ¬ n b < 8) : openT T b = T ∧ openV T b = 0 ∧ opE T b = 5 := by
 have hok : ¬ openOk T b = true := by
  unfold openOk
  rw [h.client, h.op, h.lim]
  simpa using hb
 exact ⟨by unfold openT; rw [if_neg hok], by unfold openV; rw [if_neg hok], by unfold opE; rw [if_neg hok]⟩
theorem RI.start (c : Bool) : RI c (fun _ => 0) (peerT (newT c own0) own0) := by
 refine ⟨by cases c <;> rfl, fun b => by cases c <;> cases b <;> rfl, fun b => by cases c <;> cases b <;> rfl, fun _ => by decide, by cases c <;> rfl, fun z hz => ?_⟩
 have : (peerT (newT c own0) own0).dom = [] := by cases c <;> rfl
 rw [this] at hz
 cases hz
def nC (n : Bool → Nat) : Array Value := #[.int .u64 (n false : Int), .int .u64 (n true : Int)]
def AtI (W w : World) (nb tb mb : Nat) (c : Bool) (n : Bool → Nat) : Prop := ∃ G T, RI c n T ∧ At W w [blkTh nb (nC n) 32, tabTh W.heap.size tb mb G T]
theorem AtI.fin {W w : World} {nb tb mb : Nat} {c : Bool} {n : Bool → Nat} (h : AtI W w nb tb mb c n) : Mod (fun _ => False) W w := by
 obtain ⟨G, T, -, h⟩ := h
 exact h.fin
theorem AtI.cells {W w : World} {nb tb mb : Nat} {c : Bool} {n : Bool → Nat} (h : AtI W w nb tb mb c n) : Blk w nb (nC n) 32 := by
 obtain ⟨G, T, -, h⟩ := h
 exact h.get []
def AtJ (W w : World) (nb tb mb : Nat) (c : Bool) (n n' : Bool → Nat) : Prop := ∃ G T, RI c n' T ∧ At W w [blkTh nb (nC n) 32, tabTh W.heap.size tb mb G T]
theorem AtJ.cells {W w : World} {nb tb mb : Nat} {c : Bool} {n n' : Bool → Nat} (h : AtJ W w nb tb mb c n n') : Blk w nb (nC n) 32 := by
 obtain ⟨G, T, -, h⟩ := h
 exact h.get []
theorem AtJ.store {W w : World} {nb tb mb : Nat} {c b : Bool} {n : Bool → Nat} (h : AtJ W w nb tb mb c n (upN n b)) {i : Nat} {z : Int} (hi : i = if b then 1 else 0) (hz : z = ((n b + 1 : Nat) : Int)) : AtI W (w.setCell ⟨nb, i, none⟩ (.int .u64 z)) nb tb mb c (upN n b) := by
 subst hz
 obtain ⟨G, T, hq, h⟩ := h
 refine ⟨G, T, hq, h.turn [] (o' := blkTh nb (nC (upN n b)) 32) ?_ (fun k hk => .inl hk) ((Mod.refl (fun k => k = nb) _).setCell (p := ⟨nb, i, none⟩) (fun _ => rfl) _)⟩
 have hb := (show Blk w nb (nC n) 32 from h.get []).set i (.int .u64 ((n b + 1 : Nat) : Int))
 have e : (nC n).setIfInBounds i (.int .u64 ((n b + 1 : Nat) : Int)) = nC (upN n b) := by
  subst hi
  cases b <;> rfl
 rw [e] at hb
 exact hb
theorem openI_s {W w : World} {nb tb mb : Nat} {c b : Bool} {n : Bool → Nat} (h : AtI W w nb tb mb c n) (hb : n b < 8) {z : Int} (hz : ((kindN c b + 4 * n b : Nat) : Int) = z) :
  Calls Tryz.prog 11 #[.pointer (some ⟨tb, 0, none⟩), .bool b] w fun e w' => e = .returned (.tuple #[.int .u64 z, .int .i64 0]) ∧ AtJ W w' nb tb mb c n (upN n b) := by
 obtain ⟨G, T, hq, h⟩ := h
 obtain ⟨h1, h2, h3⟩ := hq.opened hb
 have hc := open_s [_] h b (hq.fresh b) (by have := hq.len; have := hq.le false; have := hq.le true; omega)
 rw [h2, h3, hz] at hc
 exact hc.mono fun _ _ ⟨he, G', hs⟩ => ⟨he, G', _, h1, hs⟩
theorem openF_s {W w : World} {nb tb mb : Nat} {c b : Bool} {n : Bool → Nat} (h : AtI W w nb tb mb c n) (hb : ¬ n b < 8) :
  Calls Tryz.prog 11 #[.pointer (some ⟨tb, 0, none⟩), .bool b] w fun e w' => e = .returned (.tuple #[.int .u64 0, .int .i64 5]) ∧ AtI W w' nb tb mb c n := by
 obtain ⟨G, T, hq, h⟩ := h
 obtain ⟨h1, h2, h3⟩ := hq.full hb
 have hc := open_s [_] h b (hq.fresh b) (by have := hq.len; have := hq.le false; have := hq.le true; omega)
 rw [h1, h2, h3] at hc
 exact hc.mono fun _ _ ⟨he, G', hs⟩ => ⟨he, G', T, hq, hs⟩
theorem idsI_s {W w : World} {nb tb mb : Nat} {c : Bool} {n : Bool → Nat} (h : AtI W w nb tb mb c n) :
  Calls Tryz.prog 12 #[.pointer (some ⟨tb, 0, none⟩)] w fun e w' => ∃ a k, e = .returned (.slice a (n false + n true) k) ∧ Mod (fun _ => False) w w' := by
 obtain ⟨G, T, hq, h⟩ := h
 have hl := hq.len
 refine (ids_full (At.get [_] h) (by have := hq.le false; have := hq.le true; omega)).mono ?_
 rintro e w' ⟨v, rfl, ho, hM⟩
 obtain ⟨a, k, rfl⟩ := ho.val
 exact ⟨a, k, by rw [sortI_len, hl], hM⟩
theorem startI {W w : World} {tb mb : Nat} {G : Int → SM} {c : Bool} (h : At W w [tabTh W.heap.size tb mb G (peerT (newT c own0) own0)]) : AtI W (w.alloc (.cells #[.int .u64 0, .int .u64 0] 32)) w.heap.size tb mb c (fun _ => 0) := by
 refine ⟨G, _, RI.start c, h.push ((Mod.refl _ _).alloc _) (blkTh w.heap.size (nC fun _ => 0) 32) (Blk.new w _ _) (fun k hk => ?_)⟩
 have e : k = w.heap.size := hk
 subst e
 simp
def boolL (b : Bool) : List Value := [.bool b]
theorem open_bools {H : Type} {enc : TypeId × Value → H} {W : World} {v : Value} {d : DataW H} {p : List MemPlace} {base : Nat} (hval : Value.okWide Tryz.prog W .any base 22 v) (h : DataW.Trod enc Tryz.prog W 0 (fun _ => true) true 22 v d p) :
  ∃ l : List Bool, Sl W 1 v l.length (l.flatMap boolL) ∧ ∀ x ∈ l, True :=
 open_rows boolL (fun _ => rfl) (by decide) (fun _ => True) Tryz.underlying22 (by kernel_rfl) (fun fuel cs y hl hf => by
  match cs, hl with
  | [c0], _ =>
   obtain ⟨b, e, _⟩ := DataW.trod_bool Tryz.underlying4 hf
   exact ⟨b, by simpa [boolL] using e, trivial⟩) hval h
theorem bools_at {w : World} {v : Value} {l : List Bool} {i : Nat} {b : Bool} (h : Sl w 1 v l.length (l.flatMap boolL)) (hi : l[i]? = some b) : ∃ g off cap, v = .slice (some ⟨g, off, none⟩) l.length cap ∧ w.cell? ⟨g, off + i, none⟩ = some (.bool b) := by
 have e0 : ∀ l : List Bool, l.flatMap boolL = l.map (fun b => Value.bool b) := fun l => by
  induction l with
  | nil => rfl
  | cons x l ih => rw [List.flatMap_cons, ih]; rfl
 have e := e0 l
 have hc : (l.flatMap boolL)[i]? = some (.bool b) := by rw [e, List.getElem?_map, hi]; rfl
 obtain ⟨g, off, cap, hv, _, _, hc2⟩ := Sl.addr h (fun e2 => by rw [e2] at hc; cases hc)
 exact ⟨g, off, cap, hv, hc2 i _ hc⟩
end Go.Proofs.YtolgeghdkoodnaaGreatDoor
set_option maxRecDepth 100000
namespace Go.Proofs.YtolgeghdkoodnaaGreatDoor
open Go.RowKit Go.Maps
set_option maxHeartbeats 8000000 in
set_option maxRecDepth 10000 in
theorem ids_true {W : World} (hT : Tabs W) {v : Value} {l : List Bool} (hl : Sl W 1 v l.length (l.flatMap boolL)) (h60 : l.length ≤ 60) :
  Calls Tryz.prog 3 #[.bool true, v] W fun e w' => e = .returned (.bool true) ∧ Below W.heap.size W w' := by
 obtain ⟨va, vc, rfl, -⟩ := Sl.val hl
 have HOWN := Lib.hid own_any
 have HAL := Lib.hid (alive_any W hT)
 have HSL := Lib.hid hl
 have t1 : decide ((60 : Int) < (l.length : Int)) = false := decide_eq_false (by omega)
 have t1' : decide (60 < l.length) = false := decide_eq_false (by omega)
 have hnb : (l.length : Int) ≤ 60 := by omega
 clear hT hl h60
 generalize hn : l.length = nl at *
 have HN := Lib.hid hn
 clear hn
 go_enter Tryz.func3, Tryz.ntmps3
 go_wp2_with (first
  | (go_at_call 7; (with_reducible refine HAL.out.mono ?_); rintro e w0 ⟨rfl, hm⟩; have HS0 := Lib.hid ((At.start W).still hm); clear hm)
  | (go_at_call 9; (with_reducible refine (HOWN.out _).mono ?_); rintro e w1 ⟨rfl, hm⟩; have HS1 := Lib.hid (HS0.out.still hm); clear hm)
  | (go_at_call 8; (have HQ := Lib.hid (new_s HS1.out true (p := own0) rfl rfl)); (with_reducible refine HQ.out.mono ?_); clear HQ; rintro e w2 ⟨tb, mb, G2, rfl, hs⟩; have HS2 := Lib.hid hs; clear hs)
  | (go_at_call 9; (with_reducible refine (HOWN.out _).mono ?_); rintro e w3 ⟨rfl, hm⟩; have HS3 := Lib.hid (HS2.out.still hm); clear hm)
  | (go_at_call 10; (have HQ := Lib.hid (peer_s [] HS3.out (p := own0) rfl rfl)); (with_reducible refine HQ.out.mono ?_); clear HQ; rintro e w4 ⟨rfl, G4, hs⟩; have HS4 := Lib.hid (startI hs); clear hs)
  | fail)
 generalize hnb2 : w4.heap.size = nb at *
 clear hnb2
 go_loopw [7] (fun s7 wr => ∃ (i : Nat) (n : Bool → Nat), i ≤ nl ∧ s7 = .int .i64 i ∧ Hid (AtI W wr nb tb mb true n)) (fun s7 _ => nl - (intOf s7).toNat)
 case atStart => exact ⟨0, _, by omega, rfl, Lib.hid HS4.out⟩
 case round =>
  obtain ⟨i, n, hi, rfl, HI⟩ := hrel
  by_cases hin : i < nl
  ·obtain ⟨b, hb⟩ : ∃ b, l[i]? = some b := ⟨_, List.getElem?_eq_getElem (by rw [HN.out]; exact hin)⟩
   obtain ⟨g, off, cap, e, hcell⟩ := bools_at (by have h := HSL.out; rw [← HN.out] at h; exact h) hb
   simp only [Value.slice.injEq] at e
   obtain ⟨rfl, -, rfl⟩ := e
   have ti : decide ((i : Int) < (nl : Int)) = true := decide_eq_true (by omega)
   have ti' : decide (i < nl) = true := decide_eq_true hin
   clear hb
   cases b with
   | true =>
    by_cases hb8 : n true < 8
    ·have hfin := HI.out.fin
     have cb : wr.cell? ⟨g, off + i, none⟩ = some (.bool true) := hfin.cellAt (hcell) (fun h => h)
     have HB := Lib.hid HI.out.cells
     have d0 : wr.cell? ⟨nb, 0, none⟩ = some (.int .u64 (n false : Int)) := HB.out.cellAt 0 rfl
     have d1 : wr.cell? ⟨nb, 1, none⟩ = some (.int .u64 (n true : Int)) := HB.out.cellAt 1 rfl
     have tb8 : decide ((n true : Int) < 8) = true := decide_eq_true (by omega)
     have tb8' : decide (n true < 8) = true := decide_eq_true hb8
     obtain ⟨m4, hm4⟩ : ∃ m4 : Int, m4 = 4 * (n true : Int) := ⟨_, rfl⟩
     have u1 : IntKind.u64.wrap (4 * (n true : Int)) = m4 := by rw [hm4]; exact IntWalk.u64_in _ (by omega)
     obtain ⟨z, hz⟩ : ∃ z : Int, z = 2 + m4 := ⟨_, rfl⟩
     have u2 : IntKind.u64.wrap (2 + m4) = z := by rw [hz]; exact IntWalk.u64_in _ (by omega)
     have u3 : IntKind.u64.wrap ((n true : Int) + 1) = (n true : Int) + 1 := IntWalk.u64_in _ (by omega)
     have HO := Lib.hid (openI_s (b := true) HI.out hb8 (z := z) (by have e : kindN true true = 2 := rfl; rw [e, hz, hm4]; push_cast; rfl))
     clear hfin hm4 hz hb8
     clear hcell
     go_wp2_with (first
      | (go_at_call 11; (with_reducible refine HO.out.mono ?_); rintro e w5 ⟨rfl, hs⟩; have HS5 := Lib.hid hs; have d0 : w5.cell? ⟨nb, 0, none⟩ = some (.int .u64 (n false : Int)) := hs.cells.cellAt 0 rfl; have d1 : w5.cell? ⟨nb, 1, none⟩ = some (.int .u64 (n true : Int)) := hs.cells.cellAt 1 rfl; have f0 : w5.frozen? ⟨nb, 1, none⟩ = false := hs.cells.free 1; clear hs)
      | fail)
     go_roundw
     case rel => exact ⟨i + 1, upN n true, by omega, by simp, Lib.hid (HS5.out.store (i := 1) rfl (by push_cast; rfl))⟩
     case measure => simp [intOf]; omega
    ·have hfin := HI.out.fin
     have cb : wr.cell? ⟨g, off + i, none⟩ = some (.bool true) := hfin.cellAt (hcell) (fun h => h)
     have HB := Lib.hid HI.out.cells
     have d0 : wr.cell? ⟨nb, 0, none⟩ = some (.int .u64 (n false : Int)) := HB.out.cellAt 0 rfl
     have d1 : wr.cell? ⟨nb, 1, none⟩ = some (.int .u64 (n true : Int)) := HB.out.cellAt 1 rfl
     have tb8 : decide ((n true : Int) < 8) = false := decide_eq_false (by omega)
     have tb8' : decide (n true < 8) = false := decide_eq_false hb8
     have HO := Lib.hid (openF_s (b := true) HI.out hb8)
     clear hfin hb8 hcell
     go_wp2_with (first
      | (go_at_call 11; (with_reducible refine HO.out.mono ?_); rintro e w5 ⟨rfl, hs⟩; have HS5 := Lib.hid hs; have d0 : w5.cell? ⟨nb, 0, none⟩ = some (.int .u64 (n false : Int)) := hs.cells.cellAt 0 rfl; have d1 : w5.cell? ⟨nb, 1, none⟩ = some (.int .u64 (n true : Int)) := hs.cells.cellAt 1 rfl; clear hs)
      | fail)
     go_roundw
     case rel => exact ⟨i + 1, n, by omega, by simp, Lib.hid HS5.out⟩
     case measure => simp [intOf]; omega
   | false =>
    by_cases hb8 : n false < 8
    ·have hfin := HI.out.fin
     have cb : wr.cell? ⟨g, off + i, none⟩ = some (.bool false) := hfin.cellAt (hcell) (fun h => h)
     have HB := Lib.hid HI.out.cells
     have d0 : wr.cell? ⟨nb, 0, none⟩ = some (.int .u64 (n false : Int)) := HB.out.cellAt 0 rfl
     have d1 : wr.cell? ⟨nb, 1, none⟩ = some (.int .u64 (n true : Int)) := HB.out.cellAt 1 rfl
     have tb8 : decide ((n false : Int) < 8) = true := decide_eq_true (by omega)
     have tb8' : decide (n false < 8) = true := decide_eq_true hb8
     obtain ⟨m4, hm4⟩ : ∃ m4 : Int, m4 = 4 * (n false : Int) := ⟨_, rfl⟩
     have u1 : IntKind.u64.wrap (4 * (n false : Int)) = m4 := by rw [hm4]; exact IntWalk.u64_in _ (by omega)
     obtain ⟨z, hz⟩ : ∃ z : Int, z = 0 + m4 := ⟨_, rfl⟩
     have u2 : IntKind.u64.wrap (0 + m4) = z := by rw [hz]; exact IntWalk.u64_in _ (by omega)
     have u3 : IntKind.u64.wrap ((n false : Int) + 1) = (n false : Int) + 1 := IntWalk.u64_in _ (by omega)
     have u4 : m4 = z := by omega
     rw [u4] at u1 u2
     have u5 : IntKind.u64.wrap z = z := IntWalk.u64_in _ (by omega)
     have HO := Lib.hid (openI_s (b := false) HI.out hb8 (z := z) (by have e : kindN true false = 0 := rfl; rw [e, hz, hm4]; push_cast; rfl))
     clear hfin hm4 hz hb8 u4
     clear hcell
     go_wp2_with (first
      | (go_at_call 11; (with_reducible refine HO.out.mono ?_); rintro e w5 ⟨rfl, hs⟩; have HS5 := Lib.hid hs; have d0 : w5.cell? ⟨nb, 0, none⟩ = some (.int .u64 (n false : Int)) := hs.cells.cellAt 0 rfl; have d1 : w5.cell? ⟨nb, 1, none⟩ = some (.int .u64 (n true : Int)) := hs.cells.cellAt 1 rfl; have f0 : w5.frozen? ⟨nb, 0, none⟩ = false := hs.cells.free 0; clear hs)
      | fail)
     go_roundw
     case rel => exact ⟨i + 1, upN n false, by omega, by simp, Lib.hid (HS5.out.store (i := 0) rfl (by push_cast; rfl))⟩
     case measure => simp [intOf]; omega
    ·have hfin := HI.out.fin
     have cb : wr.cell? ⟨g, off + i, none⟩ = some (.bool false) := hfin.cellAt (hcell) (fun h => h)
     have HB := Lib.hid HI.out.cells
     have d0 : wr.cell? ⟨nb, 0, none⟩ = some (.int .u64 (n false : Int)) := HB.out.cellAt 0 rfl
     have d1 : wr.cell? ⟨nb, 1, none⟩ = some (.int .u64 (n true : Int)) := HB.out.cellAt 1 rfl
     have tb8 : decide ((n false : Int) < 8) = false := decide_eq_false (by omega)
     have tb8' : decide (n false < 8) = false := decide_eq_false hb8
     have HO := Lib.hid (openF_s (b := false) HI.out hb8)
     clear hfin hb8 hcell
     go_wp2_with (first
      | (go_at_call 11; (with_reducible refine HO.out.mono ?_); rintro e w5 ⟨rfl, hs⟩; have HS5 := Lib.hid hs; have d0 : w5.cell? ⟨nb, 0, none⟩ = some (.int .u64 (n false : Int)) := hs.cells.cellAt 0 rfl; have d1 : w5.cell? ⟨nb, 1, none⟩ = some (.int .u64 (n true : Int)) := hs.cells.cellAt 1 rfl; clear hs)
      | fail)
     go_roundw
     case rel => exact ⟨i + 1, n, by omega, by simp, Lib.hid HS5.out⟩
     case measure => simp [intOf]; omega
  ·have ei : nl = i := by omega
   subst ei
   have ti : decide ((nl : Int) < (nl : Int)) = false := decide_eq_false (by omega)
   have ti' : decide (nl < nl) = false := decide_eq_false (by omega)
   have hle : n false ≤ 8 ∧ n true ≤ 8 := by
    obtain ⟨G, T, hq, -⟩ := HI.out
    exact ⟨hq.le false, hq.le true⟩
   have u1 : IntKind.u64.wrap ((n false : Int) + (n true : Int)) = ((n false + n true : Nat) : Int) := by rw [IntWalk.u64_in _ (by omega)]; push_cast; rfl
   have u2 : IntKind.i64.wrap ((n false + n true : Nat) : Int) = ((n false + n true : Nat) : Int) := IntWalk.i64_in _ (by omega)
   have HC := Lib.hid HI.out.cells
   have HFI := Lib.hid HI.out.fin
   clear hle
   go_upto_region 21 with fail
   obtain ⟨Gx, Tx, hqx, hsx⟩ := HI.out
   have HIY : Hid (AtI W wr.drew nb tb mb true n) := Lib.hid ⟨Gx, Tx, hqx, hsx.still (Mod.refl _ _).drew⟩
   clear hqx hsx
   have HID := Lib.hid (idsI_s HIY.out)
   have k0 : wr.cell? ⟨nb, 0, none⟩ = some (.int .u64 (n false : Int)) := HC.out.cellAt 0 rfl
   have k1 : wr.cell? ⟨nb, 1, none⟩ = some (.int .u64 (n true : Int)) := HC.out.cellAt 1 rfl
   generalize n false = p0 at *
   generalize n true = p1 at *
   obtain ⟨sm, hsm⟩ : ∃ sm : Nat, sm = p0 + p1 := ⟨_, rfl⟩
   rw [← hsm] at u1 u2 HID
   clear hsm
   refine wp_region_held_drew (S := fun X => Mod (fun _ => False) wr X) (by kernel_rfl) (Mod.refl _ _).drew (fun hS => ?_)
   refine' takeH (i := 0) (v := _) (some 74) rfl rfl (by kernel_rfl) (by kernel_rfl) (by kernel_rfl) (fun _ _ _ h => h) (Or.inl ⟨by rfl, fun X hX => ?_⟩) hS ?_
   rotate_left
   ·go_simp; exact rfl
   (try go_frame)
   refine' takeH (i := 3) (v := _) (some 77) rfl rfl (by kernel_rfl) (by kernel_rfl) (by kernel_rfl) (fun _ _ _ h => h) (Or.inl ⟨by rfl, fun X hX => ?_⟩) hS ?_
   rotate_left
   ·go_simp; exact rfl
   (try go_frame)
   refine' takeH (i := 4) (v := _) (some 78) rfl rfl (by kernel_rfl) (by kernel_rfl) (by kernel_rfl) (fun _ _ _ h => h) (Or.inl ⟨by rfl, fun X hX => ?_⟩) hS ?_
   rotate_left
   ·have h := (show Mod (fun _ => False) wr X from hX).cellAt k0 (fun h => h); go_simp; exact rfl
   (try go_frame)
   refine' takeH (i := 5) (v := _) (some 79) rfl rfl (by kernel_rfl) (by kernel_rfl) (by kernel_rfl) (fun _ _ _ h => h) (Or.inl ⟨by rfl, fun X hX => ?_⟩) hS ?_
   rotate_left
   ·go_simp; exact rfl
   (try go_frame)
   refine' takeH (i := 6) (v := _) (some 80) rfl rfl (by kernel_rfl) (by kernel_rfl) (by kernel_rfl) (fun _ _ _ h => h) (Or.inl ⟨by rfl, fun X hX => ?_⟩) hS ?_
   rotate_left
   ·have h := (show Mod (fun _ => False) wr X from hX).cellAt k1 (fun h => h); go_simp; exact rfl
   (try go_frame)
   refine takeH (i := 7) (v := .int .u64 ((sm : Nat) : Int)) (some 81) rfl rfl (by kernel_rfl) (by kernel_rfl) (by kernel_rfl) (fun _ _ _ h => h) (Or.inl ⟨by rfl, fun X hX => ?_⟩) hS ?_
   ·go_simp
   (try go_frame)
   refine takeH (i := 8) (v := .int .i64 ((sm : Nat) : Int)) (some 82) rfl rfl (by kernel_rfl) (by kernel_rfl) (by kernel_rfl) (fun _ _ _ h => h) (Or.inl ⟨by rfl, fun X hX => ?_⟩) hS ?_
   ·go_simp
   (try go_frame)
   refine wpAnyH_ready (rs := [1]) (by kernel_rfl) (by simp) ?_
   refine (AllReadyH.cons (o := ⟨some 75, _, _, _, _, none⟩) rfl (fun K hK => ?_) AllReadyH.nil)
   go_simp
   refine HID.out.mono ?_
   rintro e w6 ⟨ia, ic, rfl, hm6⟩
   refine hK.out _ _ (Mod.trans hS hm6) (fun hS => ?_)
   clear hK K hm6
   refine' takeH (i := 2) (v := _) (some 76) rfl rfl (by kernel_rfl) (by kernel_rfl) (by kernel_rfl) (fun _ _ _ h => h) (Or.inl ⟨by rfl, fun X hX => ?_⟩) hS ?_
   rotate_left
   ·go_simp; exact rfl
   (try go_frame)
   refine takeH (i := 9) (v := .bool true) (some 83) rfl rfl (by kernel_rfl) (by kernel_rfl) (by kernel_rfl) (fun _ _ _ h => h) (Or.inl ⟨by rfl, fun X hX => ?_⟩) hS ?_
   ·go_simp
   (try go_frame)
   refine' takeH (i := 10) (v := _) (some 4) rfl rfl (by kernel_rfl) (by kernel_rfl) (by kernel_rfl) (fun _ _ _ h => h) (Or.inl ⟨by rfl, fun X hX => ?_⟩) hS ?_
   rotate_left
   ·go_simp; exact rfl
   (try go_frame)
   refine wpAnyH_done (by kernel_rfl) ?_ _
   have HM9 := Lib.hid (HFI.out.trans hS)
   clear hS
   go_wp2_with fail
   go_ret
   exact ⟨rfl, Mod.none_belowY HM9.out⟩
set_option maxHeartbeats 8000000 in
set_option maxRecDepth 10000 in
theorem ids_false {W : World} (hT : Tabs W) {v : Value} {l : List Bool} (hl : Sl W 1 v l.length (l.flatMap boolL)) (h60 : l.length ≤ 60) :
  Calls Tryz.prog 3 #[.bool false, v] W fun e w' => e = .returned (.bool true) ∧ Below W.heap.size W w' := by
 obtain ⟨va, vc, rfl, -⟩ := Sl.val hl
 have HOWN := Lib.hid own_any
 have HAL := Lib.hid (alive_any W hT)
 have HSL := Lib.hid hl
 have t1 : decide ((60 : Int) < (l.length : Int)) = false := decide_eq_false (by omega)
 have t1' : decide (60 < l.length) = false := decide_eq_false (by omega)
 have hnb : (l.length : Int) ≤ 60 := by omega
 clear hT hl h60
 generalize hn : l.length = nl at *
 have HN := Lib.hid hn
 clear hn
 go_enter Tryz.func3, Tryz.ntmps3
 go_wp2_with (first
  | (go_at_call 7; (with_reducible refine HAL.out.mono ?_); rintro e w0 ⟨rfl, hm⟩; have HS0 := Lib.hid ((At.start W).still hm); clear hm)
  | (go_at_call 9; (with_reducible refine (HOWN.out _).mono ?_); rintro e w1 ⟨rfl, hm⟩; have HS1 := Lib.hid (HS0.out.still hm); clear hm)
  | (go_at_call 8; (have HQ := Lib.hid (new_s HS1.out false (p := own0) rfl rfl)); (with_reducible refine HQ.out.mono ?_); clear HQ; rintro e w2 ⟨tb, mb, G2, rfl, hs⟩; have HS2 := Lib.hid hs; clear hs)
  | (go_at_call 9; (with_reducible refine (HOWN.out _).mono ?_); rintro e w3 ⟨rfl, hm⟩; have HS3 := Lib.hid (HS2.out.still hm); clear hm)
  | (go_at_call 10; (have HQ := Lib.hid (peer_s [] HS3.out (p := own0) rfl rfl)); (with_reducible refine HQ.out.mono ?_); clear HQ; rintro e w4 ⟨rfl, G4, hs⟩; have HS4 := Lib.hid (startI hs); clear hs)
  | fail)
 generalize hnb2 : w4.heap.size = nb at *
 clear hnb2
 go_loopw [7] (fun s7 wr => ∃ (i : Nat) (n : Bool → Nat), i ≤ nl ∧ s7 = .int .i64 i ∧ Hid (AtI W wr nb tb mb false n)) (fun s7 _ => nl - (intOf s7).toNat)
 case atStart => exact ⟨0, _, by omega, rfl, Lib.hid HS4.out⟩
 case round =>
  obtain ⟨i, n, hi, rfl, HI⟩ := hrel
  by_cases hin : i < nl
  ·obtain ⟨b, hb⟩ : ∃ b, l[i]? = some b := ⟨_, List.getElem?_eq_getElem (by rw [HN.out]; exact hin)⟩
   obtain ⟨g, off, cap, e, hcell⟩ := bools_at (by have h := HSL.out; rw [← HN.out] at h; exact h) hb
   simp only [Value.slice.injEq] at e
   obtain ⟨rfl, -, rfl⟩ := e
   have ti : decide ((i : Int) < (nl : Int)) = true := decide_eq_true (by omega)
   have ti' : decide (i < nl) = true := decide_eq_true hin
   clear hb
   cases b with
   | true =>
    by_cases hb8 : n true < 8
    ·have hfin := HI.out.fin
     have cb : wr.cell? ⟨g, off + i, none⟩ = some (.bool true) := hfin.cellAt (hcell) (fun h => h)
     have HB := Lib.hid HI.out.cells
     have d0 : wr.cell? ⟨nb, 0, none⟩ = some (.int .u64 (n false : Int)) := HB.out.cellAt 0 rfl
     have d1 : wr.cell? ⟨nb, 1, none⟩ = some (.int .u64 (n true : Int)) := HB.out.cellAt 1 rfl
     have tb8 : decide ((n true : Int) < 8) = true := decide_eq_true (by omega)
     have tb8' : decide (n true < 8) = true := decide_eq_true hb8
     obtain ⟨m4, hm4⟩ : ∃ m4 : Int, m4 = 4 * (n true : Int) := ⟨_, rfl⟩
     have u1 : IntKind.u64.wrap (4 * (n true : Int)) = m4 := by rw [hm4]; exact IntWalk.u64_in _ (by omega)
     obtain ⟨z, hz⟩ : ∃ z : Int, z = 3 + m4 := ⟨_, rfl⟩
     have u2 : IntKind.u64.wrap (3 + m4) = z := by rw [hz]; exact IntWalk.u64_in _ (by omega)
     have u3 : IntKind.u64.wrap ((n true : Int) + 1) = (n true : Int) + 1 := IntWalk.u64_in _ (by omega)
     have HO := Lib.hid (openI_s (b := true) HI.out hb8 (z := z) (by have e : kindN false true = 3 := rfl; rw [e, hz, hm4]; push_cast; rfl))
     clear hfin hm4 hz hb8
     clear hcell
     go_wp2_with (first
      | (go_at_call 11; (with_reducible refine HO.out.mono ?_); rintro e w5 ⟨rfl, hs⟩; have HS5 := Lib.hid hs; have d0 : w5.cell? ⟨nb, 0, none⟩ = some (.int .u64 (n false : Int)) := hs.cells.cellAt 0 rfl; have d1 : w5.cell? ⟨nb, 1, none⟩ = some (.int .u64 (n true : Int)) := hs.cells.cellAt 1 rfl; have f0 : w5.frozen? ⟨nb, 1, none⟩ = false := hs.cells.free 1; clear hs)
      | fail)
     go_roundw
     case rel => exact ⟨i + 1, upN n true, by omega, by simp, Lib.hid (HS5.out.store (i := 1) rfl (by push_cast; rfl))⟩
     case measure => simp [intOf]; omega
    ·have hfin := HI.out.fin
     have cb : wr.cell? ⟨g, off + i, none⟩ = some (.bool true) := hfin.cellAt (hcell) (fun h => h)
     have HB := Lib.hid HI.out.cells
     have d0 : wr.cell? ⟨nb, 0, none⟩ = some (.int .u64 (n false : Int)) := HB.out.cellAt 0 rfl
     have d1 : wr.cell? ⟨nb, 1, none⟩ = some (.int .u64 (n true : Int)) := HB.out.cellAt 1 rfl
     have tb8 : decide ((n true : Int) < 8) = false := decide_eq_false (by omega)
     have tb8' : decide (n true < 8) = false := decide_eq_false hb8
     have HO := Lib.hid (openF_s (b := true) HI.out hb8)
     clear hfin hb8 hcell
     go_wp2_with (first
      | (go_at_call 11; (with_reducible refine HO.out.mono ?_); rintro e w5 ⟨rfl, hs⟩; have HS5 := Lib.hid hs; have d0 : w5.cell? ⟨nb, 0, none⟩ = some (.int .u64 (n false : Int)) := hs.cells.cellAt 0 rfl; have d1 : w5.cell? ⟨nb, 1, none⟩ = some (.int .u64 (n true : Int)) := hs.cells.cellAt 1 rfl; clear hs)
      | fail)
     go_roundw
     case rel => exact ⟨i + 1, n, by omega, by simp, Lib.hid HS5.out⟩
     case measure => simp [intOf]; omega
   | false =>
    by_cases hb8 : n false < 8
    ·have hfin := HI.out.fin
     have cb : wr.cell? ⟨g, off + i, none⟩ = some (.bool false) := hfin.cellAt (hcell) (fun h => h)
     have HB := Lib.hid HI.out.cells
     have d0 : wr.cell? ⟨nb, 0, none⟩ = some (.int .u64 (n false : Int)) := HB.out.cellAt 0 rfl
     have d1 : wr.cell? ⟨nb, 1, none⟩ = some (.int .u64 (n true : Int)) := HB.out.cellAt 1 rfl
     have tb8 : decide ((n false : Int) < 8) = true := decide_eq_true (by omega)
     have tb8' : decide (n false < 8) = true := decide_eq_true hb8
     obtain ⟨m4, hm4⟩ : ∃ m4 : Int, m4 = 4 * (n false : Int) := ⟨_, rfl⟩
     have u1 : IntKind.u64.wrap (4 * (n false : Int)) = m4 := by rw [hm4]; exact IntWalk.u64_in _ (by omega)
     obtain ⟨z, hz⟩ : ∃ z : Int, z = 1 + m4 := ⟨_, rfl⟩
     have u2 : IntKind.u64.wrap (1 + m4) = z := by rw [hz]; exact IntWalk.u64_in _ (by omega)
     have u3 : IntKind.u64.wrap ((n false : Int) + 1) = (n false : Int) + 1 := IntWalk.u64_in _ (by omega)
     have HO := Lib.hid (openI_s (b := false) HI.out hb8 (z := z) (by have e : kindN false false = 1 := rfl; rw [e, hz, hm4]; push_cast; rfl))
     clear hfin hm4 hz hb8
     clear hcell
     go_wp2_with (first
      | (go_at_call 11; (with_reducible refine HO.out.mono ?_); rintro e w5 ⟨rfl, hs⟩; have HS5 := Lib.hid hs; have d0 : w5.cell? ⟨nb, 0, none⟩ = some (.int .u64 (n false : Int)) := hs.cells.cellAt 0 rfl; have d1 : w5.cell? ⟨nb, 1, none⟩ = some (.int .u64 (n true : Int)) := hs.cells.cellAt 1 rfl; have f0 : w5.frozen? ⟨nb, 0, none⟩ = false := hs.cells.free 0; clear hs)
      | fail)
     go_roundw
     case rel => exact ⟨i + 1, upN n false, by omega, by simp, Lib.hid (HS5.out.store (i := 0) rfl (by push_cast; rfl))⟩
     case measure => simp [intOf]; omega
    ·have hfin := HI.out.fin
     have cb : wr.cell? ⟨g, off + i, none⟩ = some (.bool false) := hfin.cellAt (hcell) (fun h => h)
     have HB := Lib.hid HI.out.cells
     have d0 : wr.cell? ⟨nb, 0, none⟩ = some (.int .u64 (n false : Int)) := HB.out.cellAt 0 rfl
     have d1 : wr.cell? ⟨nb, 1, none⟩ = some (.int .u64 (n true : Int)) := HB.out.cellAt 1 rfl
     have tb8 : decide ((n false : Int) < 8) = false := decide_eq_false (by omega)
     have tb8' : decide (n false < 8) = false := decide_eq_false hb8
     have HO := Lib.hid (openF_s (b := false) HI.out hb8)
     clear hfin hb8 hcell
     go_wp2_with (first
      | (go_at_call 11; (with_reducible refine HO.out.mono ?_); rintro e w5 ⟨rfl, hs⟩; have HS5 := Lib.hid hs; have d0 : w5.cell? ⟨nb, 0, none⟩ = some (.int .u64 (n false : Int)) := hs.cells.cellAt 0 rfl; have d1 : w5.cell? ⟨nb, 1, none⟩ = some (.int .u64 (n true : Int)) := hs.cells.cellAt 1 rfl; clear hs)
      | fail)
     go_roundw
     case rel => exact ⟨i + 1, n, by omega, by simp, Lib.hid HS5.out⟩
     case measure => simp [intOf]; omega
  ·have ei : nl = i := by omega
   subst ei
   have ti : decide ((nl : Int) < (nl : Int)) = false := decide_eq_false (by omega)
   have ti' : decide (nl < nl) = false := decide_eq_false (by omega)
   have hle : n false ≤ 8 ∧ n true ≤ 8 := by
    obtain ⟨G, T, hq, -⟩ := HI.out
    exact ⟨hq.le false, hq.le true⟩
   have u1 : IntKind.u64.wrap ((n false : Int) + (n true : Int)) = ((n false + n true : Nat) : Int) := by rw [IntWalk.u64_in _ (by omega)]; push_cast; rfl
   have u2 : IntKind.i64.wrap ((n false + n true : Nat) : Int) = ((n false + n true : Nat) : Int) := IntWalk.i64_in _ (by omega)
   have HC := Lib.hid HI.out.cells
   have HFI := Lib.hid HI.out.fin
   clear hle
   go_upto_region 21 with fail
   obtain ⟨Gx, Tx, hqx, hsx⟩ := HI.out
   have HIY : Hid (AtI W wr.drew nb tb mb false n) := Lib.hid ⟨Gx, Tx, hqx, hsx.still (Mod.refl _ _).drew⟩
   clear hqx hsx
   have HID := Lib.hid (idsI_s HIY.out)
   have k0 : wr.cell? ⟨nb, 0, none⟩ = some (.int .u64 (n false : Int)) := HC.out.cellAt 0 rfl
   have k1 : wr.cell? ⟨nb, 1, none⟩ = some (.int .u64 (n true : Int)) := HC.out.cellAt 1 rfl
   generalize n false = p0 at *
   generalize n true = p1 at *
   obtain ⟨sm, hsm⟩ : ∃ sm : Nat, sm = p0 + p1 := ⟨_, rfl⟩
   rw [← hsm] at u1 u2 HID
   clear hsm
   refine wp_region_held_drew (S := fun X => Mod (fun _ => False) wr X) (by kernel_rfl) (Mod.refl _ _).drew (fun hS => ?_)
   refine' takeH (i := 0) (v := _) (some 74) rfl rfl (by kernel_rfl) (by kernel_rfl) (by kernel_rfl) (fun _ _ _ h => h) (Or.inl ⟨by rfl, fun X hX => ?_⟩) hS ?_
   rotate_left
   ·go_simp; exact rfl
   (try go_frame)
   refine' takeH (i := 3) (v := _) (some 77) rfl rfl (by kernel_rfl) (by kernel_rfl) (by kernel_rfl) (fun _ _ _ h => h) (Or.inl ⟨by rfl, fun X hX => ?_⟩) hS ?_
   rotate_left
   ·go_simp; exact rfl
   (try go_frame)
   refine' takeH (i := 4) (v := _) (some 78) rfl rfl (by kernel_rfl) (by kernel_rfl) (by kernel_rfl) (fun _ _ _ h => h) (Or.inl ⟨by rfl, fun X hX => ?_⟩) hS ?_
   rotate_left
   ·have h := (show Mod (fun _ => False) wr X from hX).cellAt k0 (fun h => h); go_simp; exact rfl
   (try go_frame)
   refine' takeH (i := 5) (v := _) (some 79) rfl rfl (by kernel_rfl) (by kernel_rfl) (by kernel_rfl) (fun _ _ _ h => h) (Or.inl ⟨by rfl, fun X hX => ?_⟩) hS ?_
   rotate_left
   ·go_simp; exact rfl
   (try go_frame)
   refine' takeH (i := 6) (v := _) (some 80) rfl rfl (by kernel_rfl) (by kernel_rfl) (by kernel_rfl) (fun _ _ _ h => h) (Or.inl ⟨by rfl, fun X hX => ?_⟩) hS ?_
   rotate_left
   ·have h := (show Mod (fun _ => False) wr X from hX).cellAt k1 (fun h => h); go_simp; exact rfl
   (try go_frame)
   refine takeH (i := 7) (v := .int .u64 ((sm : Nat) : Int)) (some 81) rfl rfl (by kernel_rfl) (by kernel_rfl) (by kernel_rfl) (fun _ _ _ h => h) (Or.inl ⟨by rfl, fun X hX => ?_⟩) hS ?_
   ·go_simp
   (try go_frame)
   refine takeH (i := 8) (v := .int .i64 ((sm : Nat) : Int)) (some 82) rfl rfl (by kernel_rfl) (by kernel_rfl) (by kernel_rfl) (fun _ _ _ h => h) (Or.inl ⟨by rfl, fun X hX => ?_⟩) hS ?_
   ·go_simp
   (try go_frame)
   refine wpAnyH_ready (rs := [1]) (by kernel_rfl) (by simp) ?_
   refine (AllReadyH.cons (o := ⟨some 75, _, _, _, _, none⟩) rfl (fun K hK => ?_) AllReadyH.nil)
   go_simp
   refine HID.out.mono ?_
   rintro e w6 ⟨ia, ic, rfl, hm6⟩
   refine hK.out _ _ (Mod.trans hS hm6) (fun hS => ?_)
   clear hK K hm6
   refine' takeH (i := 2) (v := _) (some 76) rfl rfl (by kernel_rfl) (by kernel_rfl) (by kernel_rfl) (fun _ _ _ h => h) (Or.inl ⟨by rfl, fun X hX => ?_⟩) hS ?_
   rotate_left
   ·go_simp; exact rfl
   (try go_frame)
   refine takeH (i := 9) (v := .bool true) (some 83) rfl rfl (by kernel_rfl) (by kernel_rfl) (by kernel_rfl) (fun _ _ _ h => h) (Or.inl ⟨by rfl, fun X hX => ?_⟩) hS ?_
   ·go_simp
   (try go_frame)
   refine' takeH (i := 10) (v := _) (some 4) rfl rfl (by kernel_rfl) (by kernel_rfl) (by kernel_rfl) (fun _ _ _ h => h) (Or.inl ⟨by rfl, fun X hX => ?_⟩) hS ?_
   rotate_left
   ·go_simp; exact rfl
   (try go_frame)
   refine wpAnyH_done (by kernel_rfl) ?_ _
   have HM9 := Lib.hid (HFI.out.trans hS)
   clear hS
   go_wp2_with fail
   go_ret
   exact ⟨rfl, Mod.none_belowY HM9.out⟩
theorem idsl_any {W : World} (hT : Tabs W) (c : Bool) {v : Value} {l : List Bool} (hl : Sl W 1 v l.length (l.flatMap boolL)) :
  Calls Tryz.prog 3 #[.bool c, v] W fun e w' => e = .returned (.bool true) ∧ Below W.heap.size W w' := by
 by_cases h60 : l.length ≤ 60
 ·cases c
  ·exact ids_false hT hl h60
  ·exact ids_true hT hl h60
 ·obtain ⟨va, vc, rfl, -⟩ := Sl.val hl
  have HAL := Lib.hid (alive_any W hT)
  have t1 : decide ((60 : Int) < (l.length : Int)) = true := decide_eq_true (by omega)
  have t1' : decide (60 < l.length) = true := decide_eq_true (by omega)
  clear hT hl h60
  generalize l.length = nl at *
  go_enter Tryz.func3, Tryz.ntmps3
  go_wp2_with (first
   | (go_at_call 7; (with_reducible refine HAL.out.mono ?_); rintro e w0 ⟨rfl, hm⟩; have HS0 := Lib.hid hm; clear hm)
   | fail)
  go_ret
  exact ⟨rfl, Mod.none_belowY HS0.out⟩
end Go.Proofs.YtolgeghdkoodnaaGreatDoor
