/- Parts of the proof: SvB SvC SvD. -/
import Derived.Test.YtolgeghdkoodnaaGreatDoorP03
import Derived.Test.YtolgeghdkoodnaaGreatDoorP23
import Derived.BigFrame
import Derived.Lib.SlBytesConst
set_option maxRecDepth 100000
namespace Go.Proofs.YtolgeghdkoodnaaGreatDoor
open Go.RowKit Go.Maps
def tabTh (B tb mb : Nat) (G : Int → SM) (T : Tb) : Th := ⟨fun w => TBuf B w tb mb G T, TS tb mb G T, fun _ _ _ q hM hS => q.kept hM hS⟩
def frsTh (D E : Nat) (v : Value) (L : List Fr) : Th := ⟨fun w => OwnFI w D E v L, fun k => D ≤ k ∧ k < E, fun _ _ _ h hM hS => h.kept hM (fun b h1 h2 => hS b ⟨h1, h2⟩)⟩
def At (W w : World) (l : List Th) : Prop := Side W.heap.size w l ∧ Mod (fun k => W.heap.size ≤ k) W w
theorem At.start (W : World) : At W W [] := ⟨trivial, Mod.refl _ _⟩
theorem At.le {W w : World} {l : List Th} (h : At W w l) : W.heap.size ≤ w.heap.size := h.2.size
theorem At.still {W w w' : World} {l : List Th} (h : At W w l) (hM : Mod (fun _ => False) w w') : At W w' l := ⟨h.1.still hM, h.2.trans (hM.mono (fun _ _ e => e.elim))⟩
theorem At.fin {W w : World} {l : List Th} (h : At W w l) : Mod (fun _ => False) W w := (Mod.refl (fun _ => False) W).trans' h.2 (fun i hi e => by omega)
theorem At.tabs {W w : World} {l : List Th} (h : At W w l) (hT : Tabs W) : Tabs w := h.2.tabs hT (fun e => by have := block_lt_of_cell hT.1; dsimp only at this; omega)
theorem tabs_lt {W : World} (hT : Tabs W) : 2 < W.heap.size := by have := block_lt_of_cell hT.1; dsimp only at this; omega
theorem At.turn {W w w' : World} (l : List Th) {o o' : Th} {m : List Th} (h : At W w (l ++ o :: m)) (hP : o'.P w') (hR : ∀ k, o'.R k → o.R k ∨ (w.heap.size ≤ k ∧ k < w'.heap.size)) (hM : Mod o.R w w') : At W w' (l ++ o' :: m) :=
 ⟨h.1.turn l h.le hP hR hM, h.2.trans (h.1.mod (by simp) hM)⟩
theorem At.push {W w w' : World} {l : List Th} (h : At W w l) (hM : Mod (fun _ => False) w w') (o : Th) (hP : o.P w') (hR : ∀ k, o.R k → w.heap.size ≤ k ∧ k < w'.heap.size) : At W w' (o :: l) :=
 ⟨(h.1.still hM).push o h.le hP hR (fun p hp k hk hk2 => by have := (h.1.mem p hp).2 k hk; have := hR k hk2; omega), (h.still hM).2⟩
theorem At.turnNew {W w w' : World} (l : List Th) {o o' : Th} {m : List Th} (h : At W w (l ++ o :: m)) (hP : o'.P w') (hR : ∀ k, o'.R k → o.R k) (hM : Mod o.R w w') (p : Th) (hp : p.P w') (hpR : ∀ k, p.R k → w.heap.size ≤ k ∧ k < w'.heap.size) : At W w' (p :: (l ++ o' :: m)) :=
 ⟨h.1.turnNew l h.le hP hR hM p hp hpR, h.2.trans (h.1.mod (by simp) hM)⟩
theorem At.get {W w : World} (l : List Th) {o : Th} {m : List Th} (h : At W w (l ++ o :: m)) : o.P w := (h.1.mem o (by simp)).1
theorem At.tab {W w w' : World} (l : List Th) {tb mb : Nat} {G : Int → SM} {T T' : Tb} {m : List Th} (h : At W w (l ++ tabTh W.heap.size tb mb G T :: m)) (hc : TC W.heap.size w w' tb mb G T T') : ∃ G', At W w' (l ++ tabTh W.heap.size tb mb G' T' :: m) := by
 obtain ⟨G', q, hs, hM⟩ := hc
 exact ⟨G', h.turn l (o' := tabTh W.heap.size tb mb G' T') q hs hM⟩
theorem TBuf.none {B B' : Nat} {w : World} {tb mb : Nat} {G : Int → SM} {T : Tb} (q : TBuf B w tb mb G T) (h : T.dom = []) (hB : B' ≤ B) : TBuf B' w tb mb G T :=
 ⟨Nat.le_trans hB q.at0, Nat.le_trans hB q.atm, q.blk, q.map, fun z hz => (by rw [h] at hz; cases hz), q.apart, q.tops, q.mt, q.tok, q.ids, q.num⟩
theorem new_s {W w : World} {l : List Th} (h : At W w l) (c : Bool) {p : Pm} (hp : mayB p = true) (h16 : p.t.length = 16) :
  Calls Tryz.prog 8 #[.bool c, .agg (pmC p)] w fun e w' => ∃ tb mb G, e = .returned (.pointer (some ⟨tb, 0, none⟩)) ∧ At W w' (tabTh W.heap.size tb mb G (newT c p) :: l) := by
 refine (tnew_any c p hp h16 w).mono ?_
 rintro e w' ⟨tb, mb, G, rfl, q, hM⟩
 refine ⟨tb, mb, G, rfl, h.push hM (tabTh W.heap.size tb mb G (newT c p)) (q.none rfl h.le) (fun k hk => ?_)⟩
 exact q.lt k hk
theorem open_s {W w : World} (l : List Th) {tb mb : Nat} {G : Int → SM} {T : Tb} {m : List Th} (h : At W w (l ++ tabTh W.heap.size tb mb G T :: m)) (b : Bool) (hz : (openId T b : Int) ∉ T.dom) (hl : T.dom.length ≤ 1000) :
  Calls Tryz.prog 11 #[.pointer (some ⟨tb, 0, none⟩), .bool b] w fun e w' => e = .returned (.tuple #[.int .u64 (openV T b : Int), .int .i64 (opE T b)]) ∧ ∃ G', At W w' (l ++ tabTh W.heap.size tb mb G' (openT T b) :: m) :=
 (topen_any (h.get l) b hz hl).mono fun _ _ ⟨he, hc⟩ => ⟨he, h.tab l hc⟩
theorem peer_s {W w : World} (l : List Th) {tb mb : Nat} {G : Int → SM} {T : Tb} {m : List Th} (h : At W w (l ++ tabTh W.heap.size tb mb G T :: m)) {p : Pm} (hp : mayB p = true) (h16 : p.t.length = 16) :
  Calls Tryz.prog 10 #[.pointer (some ⟨tb, 0, none⟩), .agg (pmC p)] w fun e w' => e = .returned (.tuple #[]) ∧ ∃ G', At W w' (l ++ tabTh W.heap.size tb mb G' (peerT T p) :: m) :=
 (tpeer_any (h.get l) hp h16).mono fun _ _ ⟨he, hc⟩ => ⟨he, h.tab l hc⟩
theorem write_s {W w : World} (l : List Th) {tb mb : Nat} {G : Int → SM} {T : Tb} {m : List Th} (h : At W w (l ++ tabTh W.heap.size tb mb G T :: m)) {id : Nat} (hi : okId id) {dv : Value} {data : List UInt8} (hd : Byts w dv data) (hdl : data.length ≤ 1000000000) :
  Calls Tryz.prog 14 #[.pointer (some ⟨tb, 0, none⟩), .int .u64 (id : Int), dv] w fun e w' => e = .returned (.tuple #[.int .i64 (wrN T id data : Int), .int .i64 (wrE T id)]) ∧ ∃ G', At W w' (l ++ tabTh W.heap.size tb mb G' (wrT T id data) :: m) :=
 (twrite_any (h.get l) hi hd hdl).mono fun _ _ ⟨he, hc⟩ => ⟨he, h.tab l hc⟩
theorem frames_s {W w : World} (l : List Th) {tb mb : Nat} {G : Int → SM} {T : Tb} {m : List Th} (h : At W w (l ++ tabTh W.heap.size tb mb G T :: m)) (hT : Tabs W) (hi : FInv T) (room : Int) (hr : 0 ≤ room ∧ room ≤ 80000) :
  Calls Tryz.prog 15 #[.pointer (some ⟨tb, 0, none⟩), .int .i64 room] w fun e w' => ∃ a c D E, e = .returned (.slice a (framesO T room).l.length c) ∧ At W w' (frsTh D E (.slice a (framesO T room).l.length c) (framesO T room).l :: (l ++ tabTh W.heap.size tb mb G (framesO T room).T :: m)) ∧ FInv (framesO T room).T ∧ (framesO T room).T.dom = T.dom ∧ ((framesO T room).l.length : Int) ≤ 90000 := by
 refine (frames_any (h.get l) hi (h.tabs hT) (tabs_lt hT) room hr).mono ?_
 rintro e w' ⟨v, rfl, ho, ht, hs, hi2, hd, hl⟩
 obtain ⟨a, c, rfl⟩ := ho.val
 exact ⟨a, c, w.heap.size, w'.heap.size, rfl, h.turnNew l (o' := tabTh W.heap.size tb mb G (framesO T room).T) ht.1 hs ht.2.2 (frsTh _ _ _ _) ho (fun k hk => hk), hi2, hd, hl⟩
theorem read_s {W w : World} (l : List Th) {tb mb : Nat} {G : Int → SM} {T : Tb} {m : List Th} (h : At W w (l ++ tabTh W.heap.size tb mb G T :: m)) {id : Nat} (hi : okId id) (n : Int) (hn : n ≤ 1000000000) (hr1 : T.read ≤ 2000000000) (hr2 : (T.m id).taken ≤ 2000000000) (hs : ∀ k, TS tb mb G (rdT T id n) k → TS tb mb G T k) :
  Calls Tryz.prog 20 #[.pointer (some ⟨tb, 0, none⟩), .int .u64 (id : Int), .int .i64 n] w fun e w' => ∃ a c, e = .returned (.tuple #[.slice a (rdB T id n).length c, .bool (rdD T id n), .int .i64 (inPartE T id)]) ∧ At W w' (rowTh W.heap.size (.slice a (rdB T id n).length c) (rdB T id n) :: (l ++ tabTh W.heap.size tb mb G (rdT T id n) :: m)) := by
 refine (tread_any (h.get l) hi n hn hr1 hr2).mono ?_
 rintro e w' ⟨v, rfl, ho, ht⟩
 obtain ⟨a, c, rfl, -⟩ := Sl.val ho.byts
 exact ⟨a, c, rfl, h.turnNew l (o' := tabTh W.heap.size tb mb G (rdT T id n)) ht.1 hs ht.2.2 (rowTh W.heap.size _ _) (ho.base h.le) (fun k hk => ho.lt k hk)⟩
theorem acked_s {W w : World} (l : List Th) {tb mb : Nat} {G : Int → SM} {T : Tb} {m : List Th} (h : At W w (l ++ tabTh W.heap.size tb mb G T :: m)) {f : Fr} {vd vr : Value} (hf : FrV w f vd vr) (hi : okId f.id) (hdl : f.d.length ≤ 1000000000) :
  Calls Tryz.prog 24 #[.pointer (some ⟨tb, 0, none⟩), .agg (frC f vd vr)] w fun e w' => e = .returned (.tuple #[]) ∧ ∃ G', At W w' (l ++ tabTh W.heap.size tb mb G' (ackT T f) :: m) :=
 (tacked_any (h.get l) hf hi hdl).mono fun _ _ ⟨he, hc⟩ => ⟨he, h.tab l hc⟩
theorem reset_s {W w : World} (l : List Th) {tb mb : Nat} {G : Int → SM} {T : Tb} {m : List Th} (h : At W w (l ++ tabTh W.heap.size tb mb G T :: m)) {id : Nat} (hi : okId id) (code : Nat) :
  Calls Tryz.prog 18 #[.pointer (some ⟨tb, 0, none⟩), .int .u64 (id : Int), .int .u64 (code : Int)] w fun e w' => e = .returned (.int .i64 (rsE T id)) ∧ ∃ G', At W w' (l ++ tabTh W.heap.size tb mb G' (rsT T id code) :: m) :=
 (treset_any (h.get l) hi code).mono fun _ _ ⟨he, hc⟩ => ⟨he, h.tab l hc⟩
theorem take8_s {W w : World} (l : List Th) {tb mb : Nat} {G : Int → SM} {T : Tb} {m : List Th} (h : At W w (l ++ tabTh W.heap.size tb mb G T :: m)) {f : Fr} {vd vr : Value} (hf : FrV w f vd vr) (hk : f.k = 8) (hi : (f.id : Int) < 4611686018427387912) (hs : Small T) (hc : ComeOk T f.id f.a f.d.length f.fl) :
  Calls Tryz.prog 17 #[.pointer (some ⟨tb, 0, none⟩), .agg (frC f vd vr)] w fun e w' => e = .returned (.int .i64 0) ∧ ∃ G', At W w' (l ++ tabTh W.heap.size tb mb G' (comeT T f.id f.a f.d f.fl) :: m) := by
 refine (take_by (h.get l) hf.t (.inl hk) (n := 41) (by rw [if_pos hk]) (T' := comeT T f.id f.a f.d f.fl) (fun w1 hM => ?_)).mono fun _ _ ⟨he, hc⟩ => ⟨he, h.tab l hc⟩
 exact takeStream_any ((show TBuf _ _ _ _ _ _ from h.get l).still hM) hf.t (hf.kept hM).d hi hs hc
theorem acks_s {W w : World} (l : List Th) {tb mb : Nat} {G : Int → SM} {T : Tb} {m : List Th} (h : At W w (l ++ tabTh W.heap.size tb mb G T :: m)) {id : Nat} (hi : okId id) (hd : (id : Int) ∈ T.dom) {o : OB} (ho : (T.m id).out = some o) (off n : Nat) (hn : (n : Int) ≤ 1000000000) :
  Calls Tryz.prog 26 #[.pointer (some ⟨tb, 0, none⟩), .int .u64 (id : Int), .int .u64 (off : Int), .int .i64 (n : Int)] w fun e w' => e = .returned (.bool (hadO o off n)) ∧ At W w' (l ++ tabTh W.heap.size tb mb G T :: m) :=
 (tacks_any (h.get l) hi hd ho off n hn).mono fun _ _ ⟨he, hc⟩ => ⟨he, h.still hc⟩
theorem ids_s {W w : World} (l : List Th) {tb mb : Nat} {G : Int → SM} {T : Tb} {m : List Th} (h : At W w (l ++ tabTh W.heap.size tb mb G T :: m)) (hlen : T.dom.length ≤ lenMax) :
  Calls Tryz.prog 12 #[.pointer (some ⟨tb, 0, none⟩)] w fun e w' => ∃ a c, e = .returned (.slice a T.dom.length c) ∧ At W w' (l ++ tabTh W.heap.size tb mb G T :: m) := by
 refine (ids_any (h.get l) hlen).mono ?_
 rintro e w' ⟨v, rfl, ho, hM⟩
 obtain ⟨a, c, rfl⟩ := ho.val
 exact ⟨a, c, by rw [sortI_len], h.still hM⟩
theorem held_s {W w : World} (l : List Th) {tb mb : Nat} {G : Int → SM} {T : Tb} {m : List Th} (h : At W w (l ++ tabTh W.heap.size tb mb G T :: m)) (hlen : T.dom.length ≤ lenMax) :
  Calls Tryz.prog 21 #[.pointer (some ⟨tb, 0, none⟩)] w fun e w' => e = .returned (.int .i64 (heldN T (sortI T.dom) : Int)) ∧ At W w' (l ++ tabTh W.heap.size tb mb G T :: m) :=
 (held_any (h.get l) hlen).mono fun _ _ ⟨he, hc⟩ => ⟨he, h.still hc⟩
abbrev pmZx : Array Value := #[.int .u64 0, .int .u64 0, .int .u64 0, .int .u64 0, .bool false, .int .u8 0, .int .u8 0, .int .u8 0, .int .u8 0, .int .u8 0, .int .u8 0, .int .u8 0, .int .u8 0, .int .u8 0, .int .u8 0, .int .u8 0, .int .u8 0, .int .u8 0, .int .u8 0, .int .u8 0, .int .u8 0]
theorem built_own : Tryz.prog.built 29 [(0, .int .u64 300), (1, .int .u64 600), (2, .int .u64 300), (3, .int .u64 8)] = some (pmC own0) := by kernel_rfl
theorem own_any (w : World) : Calls Tryz.prog 9 #[] w fun e w' => e = .returned (.agg (pmC own0)) ∧ Mod (fun _ => False) w w' := by
 go_enter Tryz.func9, Tryz.ntmps9
 go_wp2_with (first
  | ((with_reducible refine wpList_build_c ?_ 29 [(0, .const (.int .u64 300)), (1, .const (.int .u64 600)), (2, .const (.int .u64 300)), (3, .const (.int .u64 8))] ?_ [(0, .int .u64 300), (1, .int .u64 600), (2, .int .u64 300), (3, .int .u64 8)] ?_ _ built_own ?_); (iterate 3 exact rfl))
  | ((with_reducible refine wpList_store_blk ?_ 29 (.tmp 0) (.tmp 1) ?_ w.heap.size ?_ pmZx (pmC own0) ?_ 29 (Blk.new _ _ _) (size25 own0 rfl) rfl (fun v hv => pmC_one own0 v (by simpa [pmC] using hv)) ?_); (iterate 4 exact rfl); intro w1 hB1 hM1; have HB1 := Lib.hid hB1; have HM1 := Lib.hid hM1; clear hB1 hM1)
  | fail)
 refine bodyPost_ret (results_cell Tryz.results9 _ rfl (blk_loadVar HB1.out Tryz.underlying29 rfl (size25 own0 rfl))) rfl ?_
 exact ⟨rfl, ((Mod.refl (fun _ => False) w).alloc _).trans' HM1.out (fun k hk e => by omega)⟩
end Go.Proofs.YtolgeghdkoodnaaGreatDoor
set_option maxRecDepth 100000
namespace Go.Proofs.YtolgeghdkoodnaaGreatDoor
open Go.RowKit Go.Maps
theorem wpList_build_g {ops : Array Oper} {rest : List Oper} {op : Oper} {a : Act} {w : World} {Q : Exit → Act → World → Prop} (ty : TypeId) (pl : List (Nat × Operand)) (ho : op.op = .build ty pl.toArray) (hw : Region.wanted op (yielded ops a.tmps) = true)
  (vals : List (Nat × Value)) (hv : pl.map (fun x => (x.1, a.eval x.2)) = vals) (cells : Array Value) (hb : Tryz.prog.built ty vals = some cells) (k : wpList Tryz.prog ops Q rest (a.put op.dst (.agg cells)) w) : wpList Tryz.prog ops Q (op :: rest) a w := by
 refine BigFrame.wpList_want hw fun K hK => ?_
 unfold Oper.wp
 rw [exec_bu ho vals hv cells hb]
 exact hK _ _ k
theorem byts_lit_v (w : World) (l : List UInt8) (cs : Array Value) (n : Nat) (m : Nat × Nat) (hc : cs = (l.map bv).toArray) (hn : l.length = n) (hm : n ≤ maxLen) :
  Byts (w.alloc (.cells cs 5 m)) (.slice (some ⟨w.heap.size, 0, none⟩) n n) l := by
 subst hc; subst hn
 refine ⟨by simp, _, l.length, rfl, Nat.le_refl _, hm, fun h => by simp at h, fun j u hu => ⟨_, 0, rfl, ?_⟩⟩
 rw [Nat.zero_add]
 exact (cell_of_row _ w.heap.size j _ 5 m (heap_alloc_new w _)).trans (by simpa using hu)
theorem TS_read (tb mb : Nat) (G : Int → SM) (T : Tb) (id : Nat) (n : Int) : ∀ k, TS tb mb G (rdT T id n) k → TS tb mb G T k := by
 have hu : ∀ (s' : St) (T' : Tb), s'.out = (T.m id).out → (s'.inn.isSome = true → (T.m id).inn.isSome = true) → T'.dom = T.dom → T'.m = updM T.m id s' → ∀ k, TS tb mb G T' k → TS tb mb G T k := by
  rintro s' T' h1 h2 h3 h4 k (h | h | ⟨z, hz, hk⟩)
  ·exact .inl h
  ·exact .inr (.inl h)
  ·rw [h3] at hz
   rw [h4] at hk
   refine .inr (.inr ⟨z, hz, ?_⟩)
   by_cases hs : z = id
   ·rw [hs, updM_same] at hk
    rw [hs]
    rcases hk with e | e | e | e
    ·exact .inl e
    ·exact .inr (.inl e)
    ·exact .inr (.inr (.inl ⟨by rw [← h1]; exact e.1, e.2⟩))
    ·exact .inr (.inr (.inr ⟨h2 e.1, e.2⟩))
   ·rw [updM_other hs] at hk
    exact hk
 unfold rdT
 split
 ·rename_i h0
  obtain ⟨-, ⟨o, ho⟩, -⟩ := inPartE_zero h0
  have hi : (T.m id).inn.isSome = true := by rw [ho]; rfl
  split
  ·exact hu _ _ (by unfold rdS; split <;> rfl) (fun _ => hi) rfl rfl
  ·exact hu _ _ (by unfold rdS; split <;> rfl) (fun _ => hi) rfl rfl
 ·exact fun k h => h
theorem smallB0 : Small (newT false own0) := finvB0.small
theorem framesA_s {W w : World} (l : List Th) {tb mb : Nat} {G : Int → SM} {m : List Th} (h : At W w (l ++ tabTh W.heap.size tb mb G tA5 :: m)) (hT : Tabs W) :
  Calls Tryz.prog 15 #[.pointer (some ⟨tb, 0, none⟩), .int .i64 100] w fun e w' => ∃ a c D E, e = .returned (.slice a 1 c) ∧ At W w' (frsTh D E (.slice a 1 c) [hF] :: (l ++ tabTh W.heap.size tb mb G tA6 :: m)) := by
 have h1 := frames_s l h hT finvA5 100 (by decide)
 rw [framesA, listA] at h1
 exact h1.mono fun _ _ ⟨a, c, D, E, he, hs, _⟩ => ⟨a, c, D, E, he, hs⟩
theorem framesB_s {W w : World} (l : List Th) {tb mb : Nat} {G : Int → SM} {m : List Th} (h : At W w (l ++ tabTh W.heap.size tb mb G tB2 :: m)) (hT : Tabs W) :
  Calls Tryz.prog 15 #[.pointer (some ⟨tb, 0, none⟩), .int .i64 100] w fun e w' => ∃ a c D E, e = .returned (.slice a 2 c) ∧ At W w' (frsTh D E (.slice a 2 c) [limitF 0 305, dataF 605] :: (l ++ tabTh W.heap.size tb mb G tB3 :: m)) := by
 have h1 := frames_s l h hT finvB2 100 (by decide)
 rw [framesB, listB] at h1
 exact h1.mono fun _ _ ⟨a, c, D, E, he, hs, _⟩ => ⟨a, c, D, E, he, hs⟩
theorem readB_s {W w : World} (l : List Th) {tb mb : Nat} {G : Int → SM} {m : List Th} (h : At W w (l ++ tabTh W.heap.size tb mb G tB1 :: m)) :
  Calls Tryz.prog 20 #[.pointer (some ⟨tb, 0, none⟩), .int .u64 0, .int .i64 9] w fun e w' => ∃ a c, e = .returned (.tuple #[.slice a 5 c, .bool false, .int .i64 0]) ∧ At W w' (rowTh W.heap.size (.slice a 5 c) hello :: (l ++ tabTh W.heap.size tb mb G tB2 :: m)) := by
 have h1 := read_s l h (id := 0) (by unfold okId; decide) 9 (by decide) (by decide) (by decide) (TS_read _ _ _ _ _ _)
 rw [readHello, readDone] at h1
 exact h1
theorem idsA_s {W w : World} (l : List Th) {tb mb : Nat} {G : Int → SM} {m : List Th} (h : At W w (l ++ tabTh W.heap.size tb mb G tA7 :: m)) :
  Calls Tryz.prog 12 #[.pointer (some ⟨tb, 0, none⟩)] w fun e w' => ∃ a c, e = .returned (.slice a 3 c) ∧ At W w' (l ++ tabTh W.heap.size tb mb G tA7 :: m) := by
 have h1 := ids_s l h (by rw [domA7]; decide)
 rw [domA7] at h1
 exact h1
theorem heldB_s {W w : World} (l : List Th) {tb mb : Nat} {G : Int → SM} {m : List Th} (h : At W w (l ++ tabTh W.heap.size tb mb G tB3 :: m)) :
  Calls Tryz.prog 21 #[.pointer (some ⟨tb, 0, none⟩)] w fun e w' => e = .returned (.int .i64 0) ∧ At W w' (l ++ tabTh W.heap.size tb mb G tB3 :: m) := by
 have h1 := held_s l h (by rw [domB3]; decide)
 rw [domB3, sort0, heldB] at h1
 exact h1
theorem acksA_s {W w : World} (l : List Th) {tb mb : Nat} {G : Int → SM} {m : List Th} (h : At W w (l ++ tabTh W.heap.size tb mb G tA7 :: m)) :
  Calls Tryz.prog 26 #[.pointer (some ⟨tb, 0, none⟩), .int .u64 0, .int .u64 0, .int .i64 5] w fun e w' => e = .returned (.bool true) ∧ At W w' (l ++ tabTh W.heap.size tb mb G tA7 :: m) := by
 obtain ⟨o, ho, h2⟩ := hadA
 have h1 := acks_s l h (id := 0) (by unfold okId; decide) (by rw [domA7]; decide) ho 0 5 (by decide)
 rw [h2] at h1
 exact h1
theorem resetA_s {W w : World} (l : List Th) {tb mb : Nat} {G : Int → SM} {m : List Th} (h : At W w (l ++ tabTh W.heap.size tb mb G tA7 :: m)) :
  Calls Tryz.prog 18 #[.pointer (some ⟨tb, 0, none⟩), .int .u64 4, .int .u64 7] w fun e w' => e = .returned (.int .i64 0) ∧ ∃ G', At W w' (l ++ tabTh W.heap.size tb mb G' tA8 :: m) := by
 have h1 := reset_s l h (id := 4) (by unfold okId; decide) 7
 rw [reset4] at h1
 exact h1
theorem openNo_s {W w : World} (l : List Th) {tb mb : Nat} {G : Int → SM} {m : List Th} (h : At W w (l ++ tabTh W.heap.size tb mb G (newT true own0) :: m)) :
  Calls Tryz.prog 11 #[.pointer (some ⟨tb, 0, none⟩), .bool false] w fun e w' => e = .returned (.tuple #[.int .u64 0, .int .i64 5]) ∧ ∃ G', At W w' (l ++ tabTh W.heap.size tb mb G' (newT true own0) :: m) :=
 open_s l h false (fun e => by cases e) (by decide)
theorem openA1_s {W w : World} (l : List Th) {tb mb : Nat} {G : Int → SM} {m : List Th} (h : At W w (l ++ tabTh W.heap.size tb mb G tA1 :: m)) :
  Calls Tryz.prog 11 #[.pointer (some ⟨tb, 0, none⟩), .bool false] w fun e w' => e = .returned (.tuple #[.int .u64 0, .int .i64 0]) ∧ ∃ G', At W w' (l ++ tabTh W.heap.size tb mb G' tA2 :: m) :=
 open_s l h false (fun e => by cases e) (by decide)
theorem openA2_s {W w : World} (l : List Th) {tb mb : Nat} {G : Int → SM} {m : List Th} (h : At W w (l ++ tabTh W.heap.size tb mb G tA2 :: m)) :
  Calls Tryz.prog 11 #[.pointer (some ⟨tb, 0, none⟩), .bool false] w fun e w' => e = .returned (.tuple #[.int .u64 4, .int .i64 0]) ∧ ∃ G', At W w' (l ++ tabTh W.heap.size tb mb G' tA3 :: m) :=
 open_s l h false (by decide) (by decide)
theorem openA3_s {W w : World} (l : List Th) {tb mb : Nat} {G : Int → SM} {m : List Th} (h : At W w (l ++ tabTh W.heap.size tb mb G tA3 :: m)) :
  Calls Tryz.prog 11 #[.pointer (some ⟨tb, 0, none⟩), .bool true] w fun e w' => e = .returned (.tuple #[.int .u64 2, .int .i64 0]) ∧ ∃ G', At W w' (l ++ tabTh W.heap.size tb mb G' tA4 :: m) :=
 open_s l h true (by decide) (by decide)
theorem writeA_s {W w : World} (l : List Th) {tb mb : Nat} {G : Int → SM} {m : List Th} (h : At W w (l ++ tabTh W.heap.size tb mb G tA4 :: m)) {dv : Value} (hd : Byts w dv hello) :
  Calls Tryz.prog 14 #[.pointer (some ⟨tb, 0, none⟩), .int .u64 0, dv] w fun e w' => e = .returned (.tuple #[.int .i64 5, .int .i64 0]) ∧ ∃ G', At W w' (l ++ tabTh W.heap.size tb mb G' tA5 :: m) := by
 have h1 := write_s l h (id := 0) (by unfold okId; decide) hd (by decide)
 rw [wrote5.1, wrote5.2] at h1
 exact h1
theorem At.frame {W w : World} {D E i n c : Nat} {a : Option Addr} {L : List Fr} {l m : List Th} (h : At W w (l ++ frsTh D E (.slice a n c) L :: m)) {f : Fr} (hi : L[i]? = some f) (hd : (f.d.length : Int) ≤ 1000000) :
  ∃ g vd, a = some ⟨g, 0, none⟩ ∧ FrV w f vd nilS ∧ w.rangeAt g (i * 24) (frL f vd nilS) := by
 obtain ⟨g, c', e, hf, hr⟩ := OwnFI.at (show OwnFI w D E (.slice a n c) L from h.get l) hi
 obtain ⟨vd, rfl, hv⟩ := hf.frv (by omega)
 exact ⟨g, vd, e, hv, hr⟩
end Go.Proofs.YtolgeghdkoodnaaGreatDoor
set_option maxRecDepth 100000
namespace Go.Proofs.YtolgeghdkoodnaaGreatDoor
open Go.RowKit Go.Maps
abbrev pBig : Pm := ⟨4611686018427387904, 0, 0, 0, false, z16⟩
theorem built_big : Tryz.prog.built 29 [(0, .int .u64 4611686018427387904)] = some (pmC pBig) := by kernel_rfl
theorem hello_bv : (hello.map bv).toArray = #[.int .u8 104, .int .u8 101, .int .u8 108, .int .u8 108, .int .u8 111] := by kernel_rfl
theorem limit17 (vd : Value) : (frL (limitF 0 305) vd nilS)[0]? = some (.int .i64 17) := rfl
set_option maxHeartbeats 8000000 in
set_option maxRecDepth 10000 in
theorem alive_any (W : World) (hT : Tabs W) : Calls Tryz.prog 7 #[] W fun e w' => e = .returned (.bool true) ∧ Mod (fun _ => False) W w' := by
 have HT := Lib.hid hT
 clear hT
 have HS0 := Lib.hid (At.start W)
 have HOWN := Lib.hid own_any
 have HBIG := Lib.hid (fun w => tnew_none true pBig big_none rfl w)
 have HSZ := Lib.hid (show (Tryz.prog.info? 52).map (·.size) = some 24 from sizeFrR hF nilS nilS rfl)
 have kc := fun (w : World) (C : Array Value) (n c : Nat) => Lib.run_convert_bytes_const (P := Tryz.prog) w 42 5 C n c Tryz.underlying42 Tryz.underlying5
 have t0 : (5 : Int) = 5 := rfl
 go_enter Tryz.func7, Tryz.ntmps7
 (try simp only [List.append])
 go_wp2_with (first
  | (go_at_call 9; (with_reducible refine (HOWN.out _).mono ?_); rintro e w1 ⟨rfl, hm⟩; have HS1 := Lib.hid (HS0.out.still hm); clear hm)
  | (go_at_call 8; (have HC := Lib.hid (new_s HS1.out true (p := own0) rfl rfl)); (with_reducible refine HC.out.mono ?_); clear HC; rintro e w2 ⟨ta, ma, Ga, rfl, hs⟩; (try simp only [List.cons_append, List.nil_append] at hs); have HS2 := Lib.hid hs; clear hs)
  | (go_at_call 9; (with_reducible refine (HOWN.out _).mono ?_); rintro e w3 ⟨rfl, hm⟩; have HS3 := Lib.hid (HS2.out.still hm); clear hm)
  | (go_at_call 8; (have HC := Lib.hid (new_s HS3.out false (p := own0) rfl rfl)); (with_reducible refine HC.out.mono ?_); clear HC; rintro e w4 ⟨tb, mb, Gb, rfl, hs⟩; (try simp only [List.cons_append, List.nil_append] at hs); have HS4 := Lib.hid hs; clear hs)
  | (go_at_call 11; (have HC := Lib.hid (openNo_s [_] HS4.out)); (with_reducible refine HC.out.mono ?_); clear HC; rintro e w5 ⟨rfl, G5, hs⟩; (try simp only [List.cons_append, List.nil_append] at hs); have HS5 := Lib.hid hs; clear hs)
  | (go_at_call 9; (with_reducible refine (HOWN.out _).mono ?_); rintro e w6 ⟨rfl, hm⟩; have HS6 := Lib.hid (HS5.out.still hm); clear hm)
  | (go_at_call 10; (have HC := Lib.hid (peer_s [_] HS6.out (p := own0) rfl rfl)); (with_reducible refine HC.out.mono ?_); clear HC; rintro e w7 ⟨rfl, G7, hs⟩; (try simp only [List.cons_append, List.nil_append] at hs); have HS7 := Lib.hid hs; clear hs)
  | (go_at_call 11; (have HC := Lib.hid (openA1_s [_] HS7.out)); (with_reducible refine HC.out.mono ?_); clear HC; rintro e w8 ⟨rfl, G8, hs⟩; (try simp only [List.cons_append, List.nil_append] at hs); have HS8 := Lib.hid hs; clear hs)
  | (go_at_call 11; (have HC := Lib.hid (openA2_s [_] HS8.out)); (with_reducible refine HC.out.mono ?_); clear HC; rintro e w9 ⟨rfl, G9, hs⟩; (try simp only [List.cons_append, List.nil_append] at hs); have HS9 := Lib.hid hs; clear hs)
  | (go_at_call 11; (have HC := Lib.hid (openA3_s [_] HS9.out)); (with_reducible refine HC.out.mono ?_); clear HC; rintro e w10 ⟨rfl, G10, hs⟩; (try simp only [List.cons_append, List.nil_append] at hs); have HS10 := Lib.hid hs; clear hs)
  | (go_at_call 14; (have HB := (byts_lit_v w10 hello #[.int .u8 104, .int .u8 101, .int .u8 108, .int .u8 108, .int .u8 111] 5 (5, 6) hello_bv.symm rfl (by decide))); (have HC := Lib.hid (writeA_s [_] (HS10.out.still ((Mod.refl (fun _ => False) w10).alloc _)) HB)); (with_reducible refine HC.out.mono ?_); clear HC HB; rintro e w11 ⟨rfl, G11, hs⟩; (try simp only [List.cons_append, List.nil_append] at hs); have HS11 := Lib.hid hs; clear hs)
  | (go_at_call 15; (have HC := Lib.hid (framesA_s [_] HS11.out HT.out)); (with_reducible refine HC.out.mono ?_); clear HC; rintro e w12 ⟨al, cl, D12, E12, rfl, hs⟩; obtain ⟨gl, vl, rfl, hv, hr⟩ := At.frame (l := []) hs (i := 0) (f := hF) rfl (by decide); (try simp only [List.cons_append, List.nil_append] at hs); have HS12 := Lib.hid hs; have HV12 := Lib.hid hv; have HL12 : Hid ((Instr.loadAt 52 (.pointer (some ⟨gl, 0, none⟩))).run Tryz.prog w12 = .ok (.agg (frC hF vl nilS)) w12) := Lib.hid (run_loadAt_mid w12 gl 0 52 (frL hF vl nilS) _ hr Tryz.underlying52 rfl (sizeFrR hF vl nilS rfl)); clear hs hv hr)
  | ((with_reducible refine wpList_load_g 52 (.tmp 60) ?_ ?_ (.pointer (some ⟨gl, 0, none⟩)) (.agg (frC hF vl nilS)) ?_ HL12.out ?_); (iterate 3 exact rfl))
  | (go_at_call 17; (have HC := Lib.hid (take8_s [_] HS12.out (f := hF) HV12.out rfl (by decide) smallB0 comeB0)); (with_reducible refine HC.out.mono ?_); clear HC; rintro e w13 ⟨rfl, G13, hs⟩; (try simp only [List.cons_append, List.nil_append] at hs); have HS13 := Lib.hid hs; clear hs)
  | (go_at_call 20; (have HC := Lib.hid (readB_s [_] HS13.out)); (with_reducible refine HC.out.mono ?_); clear HC; rintro e w14 ⟨a14, c14, rfl, hs⟩; obtain ⟨gl2, vl2, e2, hv, hr⟩ := At.frame (l := [_]) hs (i := 0) (f := hF) rfl (by decide); simp only [Option.some.injEq, Addr.mk.injEq, and_true] at e2; subst e2; (try simp only [List.cons_append, List.nil_append] at hs); have HS14 := Lib.hid hs; have HV14 := Lib.hid hv; have HL14 : Hid ((Instr.loadAt 52 (.pointer (some ⟨gl, 0, none⟩))).run Tryz.prog w14 = .ok (.agg (frC hF vl2 nilS)) w14) := Lib.hid (run_loadAt_mid w14 gl 0 52 (frL hF vl2 nilS) _ hr Tryz.underlying52 rfl (sizeFrR hF vl2 nilS rfl)); clear hs hv hr)
  | ((with_reducible refine wpList_load_g 52 (.tmp 73) ?_ ?_ (.pointer (some ⟨gl, 0, none⟩)) (.agg (frC hF vl2 nilS)) ?_ HL14.out ?_); (iterate 3 exact rfl))
  | (go_at_call 24; (have HC := Lib.hid (acked_s [_, _, _] HS14.out (f := hF) HV14.out (by unfold okId; decide) (by decide))); (with_reducible refine HC.out.mono ?_); clear HC; rintro e w15 ⟨rfl, G15, hs⟩; (try simp only [List.cons_append, List.nil_append] at hs); have HS15 := Lib.hid hs; clear hs)
  | (go_at_call 15; (have HC := Lib.hid (framesB_s [_, _] HS15.out HT.out)); (with_reducible refine HC.out.mono ?_); clear HC; rintro e w16 ⟨am, cm, D16, E16, rfl, hs⟩; have hcv : (convert 42 9 (.slice a14 5 c14)).run Tryz.prog w16 = .ok (.string ⟨#[104, 101, 108, 108, 111]⟩) w16 := conv_any (show OwnB w16 W.heap.size (.slice a14 5 c14) hello from At.get [_] hs).byts; (try simp only [List.cons_append, List.nil_append] at hs); have HS16 := Lib.hid hs; clear hs)
  | (go_at_call 26; (have HC := Lib.hid (acksA_s [_, _, _, _] HS16.out)); (with_reducible refine HC.out.mono ?_); clear HC; rintro e w17 ⟨rfl, hs⟩; obtain ⟨gm, vm, rfl, hv, hr⟩ := At.frame (l := []) hs (i := 0) (f := limitF 0 305) rfl (by decide); have c17 : w17.cell? ⟨gm, 0, none⟩ = some (.int .i64 17) := hr 0 _ rfl; (try simp only [List.cons_append, List.nil_append] at hs); have HS17 := Lib.hid hs; clear hs hv hr)
  | (go_at_call 12; (have HC := Lib.hid (idsA_s [_, _, _, _] HS17.out)); (with_reducible refine HC.out.mono ?_); clear HC; rintro e w18 ⟨ai, ci, rfl, hs⟩; (try simp only [List.cons_append, List.nil_append] at hs); have HS18 := Lib.hid hs; clear hs)
  | (go_at_call 21; (have HC := Lib.hid (heldB_s [_, _, _] HS18.out)); (with_reducible refine HC.out.mono ?_); clear HC; rintro e w19 ⟨rfl, hs⟩; (try simp only [List.cons_append, List.nil_append] at hs); have HS19 := Lib.hid hs; clear hs)
  | (go_at_call 18; (have HC := Lib.hid (resetA_s [_, _, _, _] HS19.out)); (with_reducible refine HC.out.mono ?_); clear HC; rintro e w20 ⟨rfl, G20, hs⟩; (try simp only [List.cons_append, List.nil_append] at hs); have HS20 := Lib.hid hs; clear hs)
  | ((with_reducible refine wpList_build_g 29 [(0, .const (.int .u64 4611686018427387904))] ?_ ?_ [(0, .int .u64 4611686018427387904)] ?_ _ built_big ?_); (iterate 3 exact rfl))
  | (go_at_call 8; (with_reducible refine (HBIG.out _).mono ?_); rintro e w21 ⟨rfl, hm⟩; have HS21 := Lib.hid (HS20.out.still hm); clear hm)
  | fail)
 go_ret
 exact ⟨rfl, HS21.out.fin⟩
end Go.Proofs.YtolgeghdkoodnaaGreatDoor
