/- Parts of the proof: SvB SvC UvB YfB UaA UaB UaC UaU. -/
import Derived.Test.YtahgidkpjmecdaaGreatDoorB01
import Derived.Test.YtahgidkpjmecdaaGreatDoorB03
import Derived.Test.YtahgidkpjmecdaaGreatDoorB18
import Derived.BigFrame
import Derived.Lib.SlBytesConst
import Derived.Deep.Upon
import Derived.Deep.CondSized
set_option maxRecDepth 100000
namespace Go.Proofs.YtahgidkpjmecdaaGreatDoor
open Go.RowKit Go.Maps
def tabTh (B tb mb : Nat) (G : Int → SM) (T : Tb) : Th := ⟨fun w => TBuf B w tb mb G T, TS tb mb G T, fun _ _ _ q hM hS => q.kept hM hS⟩
def frsTh (D E : Nat) (v : Value) (L : List Fr) : Th := ⟨fun w => OwnFI w D E v L, fun k => D ≤ k ∧ k < E, fun _ _ _ h hM hS => h.kept hM (fun b h1 h2 => hS b ⟨h1, h2⟩)⟩
def At (W w : World) (l : List Th) : Prop := Side W.heap.size w l ∧ Mod (fun k => W.heap.size ≤ k) W w
theorem At.start (W : World) : At W W [] := ⟨trivial, Mod.refl _ _⟩
theorem At.le {W w : World} {l : List Th} (h : At W w l) : W.heap.size ≤ w.heap.size := h.2.size
theorem At.still {W w w' : World} {l : List Th} (h : At W w l) (hM : Mod (fun _ => False) w w') : At W w' l := ⟨h.1.still hM, h.2.trans (hM.mono (fun _ _ e => e.elim))⟩
theorem At.fin {W w : World} {l : List Th} (h : At W w l) : Mod (fun _ => False) W w := (Mod.refl (fun _ => False) W).trans' h.2 (fun i hi e => by omega)
theorem At.tabs {W w : World} {l : List Th} (h : At W w l) (hT : Tabs W) : Tabs w := h.2.tabs hT (fun e => by have := block_lt_of_cell hT.1; dsimp only at this; omega)
theorem tabs_lt {W : World} (hT : Tabs W) : 1 < W.heap.size := by have := block_lt_of_cell hT.1; dsimp only at this; omega
theorem At.turn {W w w' : World} (l : List Th) {o o' : Th} {m : List Th} (h : At W w (l ++ o :: m)) (hP : o'.P w') (hR : ∀ k, o'.R k → o.R k ∨ (w.heap.size ≤ k ∧ k < w'.heap.size)) (hM : Mod o.R w w') : At W w' (l ++ o' :: m) :=
 ⟨h.1.turn l h.le hP hR hM, h.2.trans (h.1.mod (by simp) hM)⟩
theorem At.push {W w w' : World} {l : List Th} (h : At W w l) (hM : Mod (fun _ => False) w w') (o : Th) (hP : o.P w') (hR : ∀ k, o.R k → w.heap.size ≤ k ∧ k < w'.heap.size) : At W w' (o :: l) :=
 ⟨(h.1.still hM).push o h.le hP hR (fun p hp k hk hk2 => by have := (h.1.mem p hp).2 k hk; have := hR k hk2; omega), (h.still hM).2⟩
theorem At.turnNew {W w w' : World} (l : List Th) {o o' : Th} {m : List Th} (h : At W w (l ++ o :: m)) (hP : o'.P w') (hR : ∀ k, o'.R k → o.R k) (hM : Mod o.R w w') (p : Th) (hp : p.P w') (hpR : ∀ k, p.R k → w.heap.size ≤ k ∧ k < w'.heap.size) : At W w' (p :: (l ++ o' :: m)) :=
 ⟨h.1.turnNew l h.le hP hR hM p hp hpR, h.2.trans (h.1.mod (by simp) hM)⟩
theorem At.get {W w : World} (l : List Th) {o : Th} {m : List Th} (h : At W w (l ++ o :: m)) : o.P w := (h.1.mem o (by simp)).1
theorem At.tab {W w w' : World} (l : List Th) {tb mb : Nat} {G : Int → SM} {T T' : Tb} {m : List Th} (h : At W w (l ++ tabTh W.heap.size tb mb G T :: m)) (hc : TC W.heap.size w w' tb mb G T T') : ∃ G', At W w' (l ++ tabTh W.heap.size tb mb G' T' :: m) := by
 obtain ⟨G', q, hs, hM⟩ := hc
 exact ⟨G', h.turn l (o' := tabTh W.heap.size tb mb G' T') q hs hM⟩
theorem TBuf.none {B B' : Nat} {w : World} {tb mb : Nat} {G : Int → SM} {T : Tb} (q : TBuf B w tb mb G T) (h : T.dom = []) (hB : B' ≤ B) : TBuf B' w tb mb G T :=
 ⟨Nat.le_trans hB q.at0, Nat.le_trans hB q.atm, q.blk, q.map, fun z hz => (by rw [h] at hz; cases hz), q.apart, q.tops, q.mt, q.tok, q.ids, q.num⟩
theorem new_s {W w : World} {l : List Th} (h : At W w l) (c : Bool) {p : Pm} (hp : mayB p = true) (h16 : p.t.length = 16) :
  Calls Tryz.prog 22 #[.bool c, .agg (pmC p)] w fun e w' => ∃ tb mb G, e = .returned (.pointer (some ⟨tb, 0, none⟩)) ∧ At W w' (tabTh W.heap.size tb mb G (newT c p) :: l) := by
 refine (tnew_any c p hp h16 w).mono ?_
 rintro e w' ⟨tb, mb, G, rfl, q, hM⟩
 refine ⟨tb, mb, G, rfl, h.push hM (tabTh W.heap.size tb mb G (newT c p)) (q.none rfl h.le) (fun k hk => ?_)⟩
 exact q.lt k hk
theorem open_s {W w : World} (l : List Th) {tb mb : Nat} {G : Int → SM} {T : Tb} {m : List Th} (h : At W w (l ++ tabTh W.heap.size tb mb G T :: m)) (b : Bool) (hz : (openId T b : Int) ∉ T.dom) (hl : T.dom.length ≤ 1000) :
  Calls Tryz.prog 25 #[.pointer (some ⟨tb, 0, none⟩), .bool b] w fun e w' => e = .returned (.tuple #[.int .u64 (openV T b : Int), .int .i64 (opE T b)]) ∧ ∃ G', At W w' (l ++ tabTh W.heap.size tb mb G' (openT T b) :: m) :=
 (topen_any (h.get l) b hz hl).mono fun _ _ ⟨he, hc⟩ => ⟨he, h.tab l hc⟩
theorem peer_s {W w : World} (l : List Th) {tb mb : Nat} {G : Int → SM} {T : Tb} {m : List Th} (h : At W w (l ++ tabTh W.heap.size tb mb G T :: m)) {p : Pm} (hp : mayB p = true) (h16 : p.t.length = 16) :
  Calls Tryz.prog 24 #[.pointer (some ⟨tb, 0, none⟩), .agg (pmC p)] w fun e w' => e = .returned (.tuple #[]) ∧ ∃ G', At W w' (l ++ tabTh W.heap.size tb mb G' (peerT T p) :: m) :=
 (tpeer_any (h.get l) hp h16).mono fun _ _ ⟨he, hc⟩ => ⟨he, h.tab l hc⟩
theorem write_s {W w : World} (l : List Th) {tb mb : Nat} {G : Int → SM} {T : Tb} {m : List Th} (h : At W w (l ++ tabTh W.heap.size tb mb G T :: m)) {id : Nat} (hi : okId id) {dv : Value} {data : List UInt8} (hd : Byts w dv data) (hdl : data.length ≤ 1000000000) :
  Calls Tryz.prog 26 #[.pointer (some ⟨tb, 0, none⟩), .int .u64 (id : Int), dv] w fun e w' => e = .returned (.tuple #[.int .i64 (wrN T id data : Int), .int .i64 (wrE T id)]) ∧ ∃ G', At W w' (l ++ tabTh W.heap.size tb mb G' (wrT T id data) :: m) :=
 (twrite_any (h.get l) hi hd hdl).mono fun _ _ ⟨he, hc⟩ => ⟨he, h.tab l hc⟩
theorem frames_s {W w : World} (l : List Th) {tb mb : Nat} {G : Int → SM} {T : Tb} {m : List Th} (h : At W w (l ++ tabTh W.heap.size tb mb G T :: m)) (hT : Tabs W) (hi : FInv T) (room : Int) (hr : 0 ≤ room ∧ room ≤ 80000) :
  Calls Tryz.prog 32 #[.pointer (some ⟨tb, 0, none⟩), .int .i64 room] w fun e w' => ∃ a c D E, e = .returned (.slice a (framesO T room).l.length c) ∧ At W w' (frsTh D E (.slice a (framesO T room).l.length c) (framesO T room).l :: (l ++ tabTh W.heap.size tb mb G (framesO T room).T :: m)) ∧ FInv (framesO T room).T ∧ (framesO T room).T.dom = T.dom ∧ ((framesO T room).l.length : Int) ≤ 90000 := by
 refine (frames_any (h.get l) hi (h.tabs hT) (tabs_lt hT) room hr).mono ?_
 rintro e w' ⟨v, rfl, ho, ht, hs, hi2, hd, hl⟩
 obtain ⟨a, c, rfl⟩ := ho.val
 exact ⟨a, c, w.heap.size, w'.heap.size, rfl, h.turnNew l (o' := tabTh W.heap.size tb mb G (framesO T room).T) ht.1 hs ht.2.2 (frsTh _ _ _ _) ho (fun k hk => hk), hi2, hd, hl⟩
theorem read_s {W w : World} (l : List Th) {tb mb : Nat} {G : Int → SM} {T : Tb} {m : List Th} (h : At W w (l ++ tabTh W.heap.size tb mb G T :: m)) {id : Nat} (hi : okId id) (n : Int) (hn : n ≤ 1000000000) (hr1 : T.read ≤ 2000000000) (hr2 : (T.m id).taken ≤ 2000000000) (hs : ∀ k, TS tb mb G (rdT T id n) k → TS tb mb G T k) :
  Calls Tryz.prog 68 #[.pointer (some ⟨tb, 0, none⟩), .int .u64 (id : Int), .int .i64 n] w fun e w' => ∃ a c, e = .returned (.tuple #[.slice a (rdB T id n).length c, .bool (rdD T id n), .int .i64 (inPartE T id)]) ∧ At W w' (rowTh W.heap.size (.slice a (rdB T id n).length c) (rdB T id n) :: (l ++ tabTh W.heap.size tb mb G (rdT T id n) :: m)) := by
 refine (tread_any (h.get l) hi n hn hr1 hr2).mono ?_
 rintro e w' ⟨v, rfl, ho, ht⟩
 obtain ⟨a, c, rfl, -⟩ := Sl.val ho.byts
 exact ⟨a, c, rfl, h.turnNew l (o' := tabTh W.heap.size tb mb G (rdT T id n)) ht.1 hs ht.2.2 (rowTh W.heap.size _ _) (ho.base h.le) (fun k hk => ho.lt k hk)⟩
theorem acked_s {W w : World} (l : List Th) {tb mb : Nat} {G : Int → SM} {T : Tb} {m : List Th} (h : At W w (l ++ tabTh W.heap.size tb mb G T :: m)) {f : Fr} {vd vr : Value} (hf : FrV w f vd vr) (hi : okId f.id) (hdl : f.d.length ≤ 1000000000) :
  Calls Tryz.prog 34 #[.pointer (some ⟨tb, 0, none⟩), .agg (frC f vd vr)] w fun e w' => e = .returned (.tuple #[]) ∧ ∃ G', At W w' (l ++ tabTh W.heap.size tb mb G' (ackT T f) :: m) :=
 (tacked_any (h.get l) hf hi hdl).mono fun _ _ ⟨he, hc⟩ => ⟨he, h.tab l hc⟩
theorem code_s {W w : World} (l : List Th) {tb mb : Nat} {G : Int → SM} {T : Tb} {m : List Th} (h : At W w (l ++ tabTh W.heap.size tb mb G T :: m)) {id : Nat} (hi : okId id) :
  Calls Tryz.prog 69 #[.pointer (some ⟨tb, 0, none⟩), .int .u64 (id : Int)] w fun e w' => w = w' ∧ e = .returned (.tuple #[.int .u64 (codeV T id : Int), .bool (codeB T id)]) := tcode_any (h.get l) hi
theorem byts_lit_v (w : World) (l : List UInt8) (cs : Array Value) (n : Nat) (m : Nat × Nat) (hc : cs = (l.map bv).toArray) (hn : l.length = n) (hm : n ≤ maxLen) :
  Byts (w.alloc (.cells cs 5 m)) (.slice (some ⟨w.heap.size, 0, none⟩) n n) l := by
 subst hc; subst hn
 refine ⟨by simp, _, l.length, rfl, Nat.le_refl _, hm, fun h => by simp at h, fun j u hu => ⟨_, 0, rfl, ?_⟩⟩
 rw [Nat.zero_add]
 exact (cell_of_row _ w.heap.size j _ 5 m (heap_alloc_new w _)).trans (by simpa using hu)
theorem TS_read (tb mb : Nat) (G : Int → SM) (T : Tb) (id : Nat) (n : Int) : ∀ k, TS tb mb G (rdT T id n) k → TS tb mb G T k := by
 have hu : ∀ (s' : St) (T' : Tb), s'.out = (T.m id).out → (s'.inn.isSome = true → (T.m id).inn.isSome = true) → T'.dom = T.dom → T'.m = updM T.m id s' → ∀ k, TS tb mb G T' k → TS tb mb G T k := by
  rintro s' T' h1 h2 h3 h4 k (h | h | ⟨z, hz, hk⟩)
  ·exact .inl h
  ·exact .inr (.inl h)
  ·rw [h3] at hz
   rw [h4] at hk
   refine .inr (.inr ⟨z, hz, ?_⟩)
   by_cases hs : z = id
   ·rw [hs, updM_same] at hk
    rw [hs]
    rcases hk with e | e | e | e
    ·exact .inl e
    ·exact .inr (.inl e)
    ·exact .inr (.inr (.inl ⟨by rw [← h1]; exact e.1, e.2⟩))
    ·exact .inr (.inr (.inr ⟨h2 e.1, e.2⟩))
   ·rw [updM_other hs] at hk
    exact hk
 unfold rdT
 split
 ·rename_i h0
  obtain ⟨-, ⟨o, ho⟩, -⟩ := inPartE_zero h0
  have hi : (T.m id).inn.isSome = true := by rw [ho]; rfl
  split
  ·exact hu _ _ (by unfold rdS; split <;> rfl) (fun _ => hi) rfl rfl
  ·exact hu _ _ (by unfold rdS; split <;> rfl) (fun _ => hi) rfl rfl
 ·exact fun k h => h
theorem At.frame {W w : World} {D E i n c : Nat} {a : Option Addr} {L : List Fr} {l m : List Th} (h : At W w (l ++ frsTh D E (.slice a n c) L :: m)) {f : Fr} (hi : L[i]? = some f) (hd : (f.d.length : Int) ≤ 1000000) :
  ∃ g vd, a = some ⟨g, 0, none⟩ ∧ FrV w f vd nilS ∧ w.rangeAt g (i * 24) (frL f vd nilS) := by
 obtain ⟨g, c', e, hf, hr⟩ := OwnFI.at (show OwnFI w D E (.slice a n c) L from h.get l) hi
 obtain ⟨vd, rfl, hv⟩ := hf.frv (by omega)
 exact ⟨g, vd, e, hv, hr⟩
def own2 : Pm := ⟨0, 60000, 2000, 30, false, z16⟩
abbrev pmZx : Array Value := #[.int .u64 0, .int .u64 0, .int .u64 0, .int .u64 0, .bool false, .int .u8 0, .int .u8 0, .int .u8 0, .int .u8 0, .int .u8 0, .int .u8 0, .int .u8 0, .int .u8 0, .int .u8 0, .int .u8 0, .int .u8 0, .int .u8 0, .int .u8 0, .int .u8 0, .int .u8 0, .int .u8 0]
theorem built_own2 : Tryz.prog.built 63 [(1, .int .u64 60000), (2, .int .u64 2000), (3, .int .u64 30)] = some (pmC own2) := by kernel_rfl
theorem own2_any (w : World) : Calls Tryz.prog 23 #[] w fun e w' => e = .returned (.agg (pmC own2)) ∧ Mod (fun _ => False) w w' := by
 go_enter Tryz.func23, Tryz.ntmps23
 go_wp2_with (first
  | ((with_reducible refine wpList_build_c ?_ 63 [(1, .const (.int .u64 60000)), (2, .const (.int .u64 2000)), (3, .const (.int .u64 30))] ?_ [(1, .int .u64 60000), (2, .int .u64 2000), (3, .int .u64 30)] ?_ _ built_own2 ?_); (iterate 3 exact rfl))
  | ((with_reducible refine wpList_store_blk ?_ 63 (.tmp 0) (.tmp 1) ?_ w.heap.size ?_ pmZx (pmC own2) ?_ 63 (Blk.new _ _ _) (size25 own2 rfl) rfl (fun v hv => pmC_one own2 v (by simpa [pmC] using hv)) ?_); (iterate 4 exact rfl); intro w1 hB1 hM1; have HB1 := Lib.hid hB1; have HM1 := Lib.hid hM1; clear hB1 hM1)
  | fail)
 refine bodyPost_ret (results_cell Tryz.results23 _ rfl (blk_loadVar HB1.out Tryz.underlying63 rfl (size25 own2 rfl))) rfl ?_
 exact ⟨rfl, ((Mod.refl (fun _ => False) w).alloc _).trans' HM1.out (fun k hk e => by omega)⟩
def tabC : Tb := peerT (newT true own2) own2
def tabS : Tb := peerT (newT false own2) own2
set_option maxHeartbeats 2000000 in
set_option maxRecDepth 10000 in
theorem tables_s {W w : World} {l : List Th} (h : At W w l) : Calls Tryz.prog 8 #[] w fun e w' => ∃ ta ma Ga tb mb Gb, e = .returned (.tuple #[.pointer (some ⟨ta, 0, none⟩), .pointer (some ⟨tb, 0, none⟩)]) ∧ At W w' (tabTh W.heap.size tb mb Gb tabS :: tabTh W.heap.size ta ma Ga tabC :: l) := by
 have HS0 := Lib.hid h
 have HOWN := Lib.hid own2_any
 clear h
 go_enter Tryz.func8, Tryz.ntmps8
 go_wp2_with (first
  | (go_at_call 23; (with_reducible refine (HOWN.out _).mono ?_); rintro e w1 ⟨rfl, hm⟩; have HS1 := Lib.hid (HS0.out.still hm); clear hm)
  | (go_at_call 22; (have HC := Lib.hid (new_s HS1.out true (p := own2) rfl rfl)); (with_reducible refine HC.out.mono ?_); clear HC; rintro e w2 ⟨ta, ma, Ga, rfl, hs⟩; have HS2 := Lib.hid hs; clear hs)
  | (go_at_call 23; (with_reducible refine (HOWN.out _).mono ?_); rintro e w3 ⟨rfl, hm⟩; have HS3 := Lib.hid (HS2.out.still hm); clear hm)
  | (go_at_call 22; (have HC := Lib.hid (new_s HS3.out false (p := own2) rfl rfl)); (with_reducible refine HC.out.mono ?_); clear HC; rintro e w4 ⟨tb, mb, Gb, rfl, hs⟩; have HS4 := Lib.hid hs; clear hs)
  | (go_at_call 23; (with_reducible refine (HOWN.out _).mono ?_); rintro e w6 ⟨rfl, hm⟩; have HS6 := Lib.hid (HS4.out.still hm); clear hm)
  | (go_at_call 24; (have HC := Lib.hid (peer_s [_] HS6.out (p := own2) rfl rfl)); (with_reducible refine HC.out.mono ?_); clear HC; rintro e w7 ⟨rfl, G7, hs⟩; (try simp only [List.cons_append, List.nil_append] at hs); have HS7 := Lib.hid hs; clear hs)
  | (go_at_call 23; (with_reducible refine (HOWN.out _).mono ?_); rintro e w8 ⟨rfl, hm⟩; have HS8 := Lib.hid (HS7.out.still hm); clear hm)
  | (go_at_call 24; (have HC := Lib.hid (peer_s [] HS8.out (p := own2) rfl rfl)); (with_reducible refine HC.out.mono ?_); clear HC; rintro e w9 ⟨rfl, G9, hs⟩; (try simp only [List.nil_append] at hs); have HS9 := Lib.hid hs; clear hs)
  | fail)
 go_ret2
 exact ⟨ta, ma, G7, tb, mb, G9, rfl, HS9.out⟩
end Go.Proofs.YtahgidkpjmecdaaGreatDoor
set_option maxRecDepth 100000
namespace Go.Proofs.YtahgidkpjmecdaaGreatDoor
structure HF where
 k : Int
 id : Nat
 st : List (Nat × Nat)
 d : List UInt8
def HF.zero : HF := ⟨0, 0, [], []⟩
def htopN : Nat := 4611686018427387903
def okSet (s : Nat × Nat) : Bool := decide (s.1 ≠ 0) && !(decide (2 ≤ s.1) && decide (s.1 ≤ 5)) && decide (s.1 ≤ htopN) && decide (s.2 ≤ htopN)
def freshB : List (Nat × Nat) → Bool
 | [] => true
 | s :: l => !(l.any fun t => t.1 == s.1) && freshB l
def settingsB (l : List (Nat × Nat)) : Bool := l.all okSet && freshB l && decide (l.length ≤ 16)
def isData (k : Int) : Bool := decide (k = 0) || decide (k = 1)
def isId (k : Int) : Bool := decide (k = 3) || decide (k = 7) || decide (k = 13)
def rightH (f : HF) : Bool :=
 if isData f.k = true then decide (f.id = 0) && decide (f.st.length = 0) && decide (f.d.length ≤ 1000)
 else if f.k = 4 then decide (f.id = 0) && decide (f.d.length = 0) && settingsB f.st
 else if isId f.k = true then decide (f.id ≤ htopN) && decide (f.d.length + f.st.length = 0)
 else false
def setL (l : List (Nat × Nat)) : List UInt8 := l.flatMap fun s => putL s.1 ++ putL s.2
def bodyL (f : HF) : List UInt8 := if isData f.k = true then f.d else if f.k = 4 then setL f.st else putL f.id
def hfputL (f : HF) : List UInt8 := if rightH f = true then putL f.k.toNat ++ putL (bodyL f).length ++ bodyL f else []
def readSetL : Nat → List (Nat × Nat) → RS → List (Nat × Nat) × RS
 | 0, l, s => (l, s)
 | f + 1, l, s => if s.l = [] then (l, s) else readSetL f (l ++ [(s.int.1, s.int.2.int.1)]) s.int.2.int.2
def readK (k : Nat) (b : List UInt8) : HF × RS :=
 if isData (k : Int) = true then (⟨(k : Int), 0, [], b⟩, ⟨[], 0⟩)
 else if k = 4 then (⟨4, 0, (readSetL 17 [] ⟨b, 0⟩).1, []⟩, (readSetL 17 [] ⟨b, 0⟩).2)
 else (⟨(k : Int), (RS.int ⟨b, 0⟩).1, [], []⟩, (RS.int ⟨b, 0⟩).2)
def isKind (k : Nat) : Bool := isData (k : Int) || isId (k : Int) || decide (k = 4)
def nextE (k : Nat) (b : List UInt8) (n : Nat) : HF × Nat × Int :=
 if (readK k b).2.e ≠ 0 ∨ (readK k b).2.l ≠ [] ∨ rightH (readK k b).1 = false then (HF.zero, 0, 3) else ((readK k b).1, n, 0)
def isOld (k : Nat) : Bool := decide (k = 2) || decide (k = 6) || decide (k = 8) || decide (k = 9)
def nextL (b : List UInt8) : HF × Nat × Int :=
 if (RS.int ⟨b, 0⟩).2.e = 0 ∧ isOld (RS.int ⟨b, 0⟩).1 = true then (HF.zero, 0, 3)
 else if ((RS.int ⟨b, 0⟩).2.int.2.bytes (RS.int ⟨b, 0⟩).2.int.1).2.e ≠ 0 then (HF.zero, 0, 2)
 else if isKind (RS.int ⟨b, 0⟩).1 = false then (HF.zero, b.length - ((RS.int ⟨b, 0⟩).2.int.2.bytes (RS.int ⟨b, 0⟩).2.int.1).2.l.length, 6)
 else nextE (RS.int ⟨b, 0⟩).1 ((RS.int ⟨b, 0⟩).2.int.2.bytes (RS.int ⟨b, 0⟩).2.int.1).1 (b.length - ((RS.int ⟨b, 0⟩).2.int.2.bytes (RS.int ⟨b, 0⟩).2.int.1).2.l.length)
structure Fd where
 n : List UInt8
 v : List UInt8
def isUp (c : UInt8) : Bool := decide (65 ≤ c.toNat) && decide (c.toNat ≤ 90)
def badFd (f : Fd) : Bool := decide (f.n.length < 1) || decide (60 < f.n.length) || decide (200 < f.v.length) || f.n.any isUp
def fieldsB (l : List Fd) : Bool := decide (l.length ≤ 32) && !(l.any badFd)
def textL (s : List UInt8) : List UInt8 := putL s.length ++ s
def fdL (f : Fd) : List UInt8 := 32 :: textL f.n ++ textL f.v
def packL (l : List Fd) : List UInt8 := if fieldsB l = true then l.flatMap fdL else []
def unpackL : Nat → List Fd → RS → List Fd × Int
 | 0, out, _ => (out, 0)
 | f + 1, out, s =>
  if s.l = [] then (out, 0)
  else if s.byte.1 ≠ 32 then ([], 3)
  else if ((s.byte.2.int.2.bytes s.byte.2.int.1).2.int.2.bytes (s.byte.2.int.2.bytes s.byte.2.int.1).2.int.1).2.e ≠ 0 then ([], ((s.byte.2.int.2.bytes s.byte.2.int.1).2.int.2.bytes (s.byte.2.int.2.bytes s.byte.2.int.1).2.int.1).2.e)
  else if fieldsB (out ++ [⟨(s.byte.2.int.2.bytes s.byte.2.int.1).1, ((s.byte.2.int.2.bytes s.byte.2.int.1).2.int.2.bytes (s.byte.2.int.2.bytes s.byte.2.int.1).2.int.1).1⟩]) = false then ([], 3)
  else unpackL f (out ++ [⟨(s.byte.2.int.2.bytes s.byte.2.int.1).1, ((s.byte.2.int.2.bytes s.byte.2.int.1).2.int.2.bytes (s.byte.2.int.2.bytes s.byte.2.int.1).2.int.1).1⟩]) ((s.byte.2.int.2.bytes s.byte.2.int.1).2.int.2.bytes (s.byte.2.int.2.bytes s.byte.2.int.1).2.int.1).2
end Go.Proofs.YtahgidkpjmecdaaGreatDoor
set_option maxRecDepth 100000
namespace Go.Proofs.YtahgidkpjmecdaaGreatDoor
open Go.RowKit Go.Maps
structure Prt where
 b : List UInt8
 typed : Bool
 control : Bool
 dropped : Bool
 mine : Bool
 asked : Bool
 told : Bool
 replied : Bool
def prtC (v : Value) (p : Prt) : Array Value := #[v, .bool p.typed, .bool p.control, .bool p.dropped, .bool p.mine, .bool p.asked, .bool p.told, .bool p.replied]
def prt0 : Prt := ⟨[], false, false, false, false, false, false, false⟩
structure Ev where
 k : Int
 id : Nat
 f : List Fd
 b : List UInt8
 c : Nat
structure Ses where
 client : Bool
 started : Bool
 own : Nat
 wrote : Nat
 settled : Bool
 control : Bool
 limit : Nat
 limited : Bool
 code : Nat
 over : Bool
 dom : List Int
 m : Int → Prt
def sesC (mb : Nat) (S : Ses) (out : Value) : Array Value := #[.bool S.client, .bool S.started, .int .u64 (S.own : Int), .int .i64 (S.wrote : Int), .map (some mb), .bool S.settled, .bool S.control, .int .u64 (S.limit : Int), .bool S.limited, .int .u64 (S.code : Int), .bool S.over, out]
def ses0 (c : Bool) : Ses := ⟨c, false, 0, 0, false, false, 0, false, 0, false, [], fun _ => prt0⟩
def updP (f : Int → Prt) (z : Int) (s : Prt) : Int → Prt := fun y => if y = z then s else f y
theorem updP_same (f : Int → Prt) (z : Int) (s : Prt) : updP f z s z = s := by simp [updP]
theorem updP_other {f : Int → Prt} {z y : Int} {s : Prt} (h : y ≠ z) : updP f z s y = f y := by simp [updP, h]
def Ses.put (S : Ses) (z : Int) (p : Prt) : Ses := { S with dom := putD z S.dom, m := updP S.m z p }
def settingsF : HF := ⟨4, 0, [(6, 1000)], []⟩
def startL : List UInt8 := 0 :: hfputL settingsF
def startS (S : Ses) (id : Nat) : Ses := { S with own := id, started := true }
def goF (id : Nat) : HF := ⟨7, id, [], []⟩
def goL (id : Nat) : List UInt8 := hfputL (goF id)
def goE (S : Ses) (id : Nat) : Int := if id % 4 ≠ 0 ∨ topN < id ∨ (S.limited = true ∧ S.limit < id) then 1 else if 1000 < S.wrote + (goL id).length then 5 else 0
def goS (S : Ses) (id : Nat) : Ses := if goE S id = 0 then { S with limit := id, limited := true, wrote := S.wrote + (goL id).length } else S
def secO (l : List Fd) (data : List UInt8) : List UInt8 := hfputL ⟨1, 0, [], packL l⟩ ++ (if data = [] then [] else hfputL ⟨0, 0, [], data⟩)
def packE (l : List Fd) (data : List UInt8) : Int := if fieldsB l = false then 1 else if 1000 < (packL l).length ∨ 1000 < data.length ∨ 1500 < (secO l data).length then 4 else 0
def packO (l : List Fd) (data : List UInt8) : List UInt8 := if packE l data = 0 then secO l data else []
end Go.Proofs.YtahgidkpjmecdaaGreatDoor
set_option maxRecDepth 100000
namespace Go.Proofs.YtahgidkpjmecdaaGreatDoor
open Go.RowKit
def OwnO (w : World) (B : Nat) (v : Value) (l : List UInt8) : Prop :=
 ∃ a cap, v = .slice a l.length cap ∧ l.length ≤ cap ∧ cap ≤ maxLen ∧ ((a = none ∧ cap = 0) ∨ ∃ g off cs, a = some ⟨g, off, none⟩ ∧ B ≤ g ∧ Blk w g cs 5 ∧ off + cap ≤ cs.size ∧ ∀ j u, (l.map bv)[j]? = some u → cs[off + j]? = some u)
theorem OwnO.nil (w : World) (B : Nat) : OwnO w B (.slice none 0 0) [] := ⟨none, 0, rfl, Nat.le_refl _, by decide, .inl ⟨rfl, rfl⟩⟩
theorem OwnO.byts {w : World} {B : Nat} {v : Value} {l : List UInt8} (h : OwnO w B v l) : Byts w v l := by
 obtain ⟨a, cap, rfl, h1, h2, h3⟩ := h
 refine ⟨by simp, a, cap, rfl, h1, h2, ?_, ?_⟩
 ·rintro rfl
  rcases h3 with ⟨_, h⟩ | ⟨g, off, cs, h, _⟩
  ·exact h
  ·cases h
 ·intro j u hu
  rcases h3 with ⟨_, h⟩ | ⟨g, off, cs, rfl, _, hb, _, hc⟩
  ·have := (List.getElem?_eq_some_iff.1 hu).1
   simp at this
   omega
  ·exact ⟨g, off, rfl, hb.cellAt _ (hc j u hu)⟩
theorem OwnO.kept {S : Nat → Prop} {w w' : World} {B : Nat} {v : Value} {l : List UInt8} (h : OwnO w B v l) (hM : Mod S w w') (hS : ∀ g, blockOf v = some g → ¬ S g) : OwnO w' B v l := by
 obtain ⟨a, cap, rfl, h1, h2, h3⟩ := h
 refine ⟨a, cap, rfl, h1, h2, h3.imp id ?_⟩
 rintro ⟨g, off, cs, rfl, hB, hb, hc⟩
 exact ⟨g, off, cs, rfl, hB, hM.blk hb (hS g rfl), hc⟩
theorem OwnO.base {w : World} {B B' : Nat} {v : Value} {l : List UInt8} (h : OwnO w B v l) (hB : B' ≤ B) : OwnO w B' v l := by
 obtain ⟨a, cap, rfl, h1, h2, h3⟩ := h
 refine ⟨a, cap, rfl, h1, h2, h3.imp id ?_⟩
 rintro ⟨g, off, cs, rfl, hB2, hc⟩
 exact ⟨g, off, cs, rfl, Nat.le_trans hB hB2, hc⟩
theorem OwnO.lt {w : World} {B : Nat} {v : Value} {l : List UInt8} (h : OwnO w B v l) : ∀ g, blockOf v = some g → B ≤ g ∧ g < w.heap.size := by
 obtain ⟨a, cap, rfl, h1, h2, h3⟩ := h
 intro g hg
 rcases h3 with ⟨rfl, _⟩ | ⟨g2, off, cs, rfl, hB, hb, hc⟩
 ·cases hg
 ·simp [blockOf] at hg
  subst hg
  exact ⟨hB, hb.lt⟩
theorem OwnO.ofOwn {w : World} {B : Nat} {v : Value} {l : List UInt8} (h : OwnB w B v l) : OwnO w B v l := by
 rcases h.2 with ⟨rfl, h0⟩ | ⟨g, cap, cur, rfl, hB, hg, h1, h2, h3, h4⟩
 ·have : l = [] := List.eq_nil_of_length_eq_zero h0
  subst this
  exact OwnO.nil w B
 ·refine ⟨_, cap, rfl, h1, h2, .inr ⟨g, 0, cur, rfl, hB, hg, by omega, fun j u hu => ?_⟩⟩
  rw [← h4, List.getElem?_take] at hu
  split at hu
  ·rw [Nat.zero_add]; simpa using hu
  ·cases hu
theorem OwnO.val {w : World} {B : Nat} {v : Value} {l : List UInt8} (h : OwnO w B v l) : ∃ a cap, v = .slice a l.length cap ∧ l.length ≤ cap := by
 obtain ⟨a, cap, rfl, h1, _⟩ := h
 exact ⟨a, cap, rfl, h1⟩
theorem OwnO.drop {w : World} {B n cap k : Nat} {a : Option Addr} {l : List UInt8} (h : OwnO w B (.slice a n cap) l) (hk : k ≤ l.length) :
  OwnO w B (sliced a k n cap 1) (l.drop k) ∧ (∀ g, blockOf (sliced a k n cap 1) = some g → blockOf (.slice a n cap) = some g) := by
 obtain ⟨a2, cap2, e, h1, h2, h3⟩ := h
 simp only [Value.slice.injEq] at e
 obtain ⟨rfl, rfl, rfl⟩ := e
 have hl : (l.drop k).length = l.length - k := by simp
 unfold sliced
 by_cases hc : cap = k
 ·rw [if_pos hc]
  refine ⟨⟨a, cap - k, by rw [hl], by omega, by omega, ?_⟩, fun g hg => by cases a <;> exact hg⟩
  rcases h3 with ⟨rfl, _⟩ | ⟨g, off, cs, rfl, hB, hb, hs, hj⟩
  ·exact .inl ⟨rfl, by omega⟩
  ·refine .inr ⟨g, off, cs, rfl, hB, hb, by omega, fun j u hu => ?_⟩
   have := (List.getElem?_eq_some_iff.1 hu).1
   simp at this
   omega
 ·rw [if_neg hc]
  rcases h3 with ⟨rfl, h0⟩ | ⟨g, off, cs, rfl, hB, hb, hs, hj⟩
  ·refine ⟨⟨none, cap - k, by rw [hl]; rfl, by omega, by omega, .inl ⟨rfl, by omega⟩⟩, fun g hg => hg⟩
  ·refine ⟨⟨some ⟨g, off + k, none⟩, cap - k, ?_, by omega, by omega, .inr ⟨g, off + k, cs, rfl, hB, hb, by omega, fun j u hu => ?_⟩⟩, fun g2 hg => ?_⟩
   ·rw [hl]; simp [Addr.add_lit]
   ·rw [List.map_drop, List.getElem?_drop] at hu
    rw [Nat.add_assoc]
    exact hj _ _ hu
   ·simpa [blockOf, Addr.add_lit] using hg
theorem blk_setCells (b : Nat) (t : TypeId) : ∀ (vs : List Value) (o : Nat) (w : World) (cs : Array Value), Blk w b cs t → ∃ cs', Blk (w.setCells b o vs) b cs' t ∧ cs'.size = cs.size
 | [], _, _, cs, h => ⟨cs, h, rfl⟩
 | v :: r, o, w, cs, h => by
  obtain ⟨cs', h1, h2⟩ := blk_setCells b t r (o + 1) (w.setCell ⟨b, o, none⟩ v) _ (h.set o v)
  exact ⟨cs', h1, by rw [h2]; simp⟩
theorem infoU8O : (Tryz.prog.info? 5).map (fun i => (i.zero, i.size, i.bytes)) = some (some (.int .u8 0), 1, 1) := by kernel_rfl
theorem run_append_o {w : World} {B : Nat} {v sv : Value} {l news : List UInt8} (ty : TypeId) (hown : OwnO w B v l) (hx : Byts w sv news) (hl : l.length + news.length ≤ 100000000) (hB : B ≤ w.heap.size) :
  ∃ v' w', (Builtin.append_ #[31, 31] ty #[v, sv]).run Tryz.prog w = .ok v' w' ∧ OwnO w' B v' (l ++ news) ∧ Mod (fun k => blockOf v = some k) w w' ∧ ∀ k, blockOf v' = some k → blockOf v = some k ∨ (w.heap.size ≤ k ∧ k < w'.heap.size) := by
 obtain ⟨i0, hi, hz0, hz1, hz2⟩ := info_parts infoU8O
 obtain ⟨a, cap, rfl, h1, h2, h3⟩ := hown
 obtain ⟨e1, sa, sc, rfl, e2, e3, e4, e5⟩ := hx
 have hmx : maxLen = 9223372036854775807 := rfl
 cases sa with
 | none =>
  obtain rfl := e4 rfl
  have : news = [] := List.eq_nil_of_length_eq_zero (by omega)
  subst this
  refine ⟨_, _, run_append_nothing w _ _ ty 5 i0 Tryz.underlying31 hi a l.length cap h1 _ ⟨.inl ⟨_, Tryz.underlying31⟩, fun _ => rfl, rfl, rfl, by simp, fun u hu => by cases hu⟩, ?_, Mod.refl _ _, fun k hk => .inl hk⟩
  rw [List.append_nil]
  exact ⟨a, cap, rfl, h1, h2, h3⟩
 | some ad =>
  have hnews : ∀ j u, (news.map bv)[j]? = some u → w.cell? (ad.add j) = some u := fun j u hu => by
   obtain ⟨b, off, he, hc⟩ := e5 j u hu
   simp at he; subst he
   rw [Addr.add_lit]; exact hc
  have hln : (news.map bv).length = news.length * 1 := by simp
  rcases h3 with ⟨rfl, rfl⟩ | ⟨g, off, cs, rfl, hgB, hb, hs, hj⟩
  ·have hl0 : l = [] := List.eq_nil_of_length_eq_zero (by omega)
   subst hl0
   obtain ⟨v', w', hrun, r1, r2, _⟩ := run_append_own (P := Tryz.prog) w w.heap.size 31 ty 5 i0 _ 1 1 Tryz.underlying31 hi hz0 hz1 hz2 rfl (by decide) (.slice none 0 0) 0 [] (World.ownsRow_nil w _ _ _) ad news.length sc (news.map bv) hln hnews (bv_one news) (by omega) (by simp at hl ⊢; omega) (Nat.le_refl _)
   have ho : OwnB w' w.heap.size v' news := by
    simpa [OwnB] using r1
   refine ⟨v', w', hrun, (OwnO.ofOwn ho).base hB, ((Mod.refl (fun _ => False) _).grown r2 (fun k hk _ => by simp [Value.ownBlock] at hk)).mono (fun _ _ h => h.elim), fun k hk => .inr ((OwnO.ofOwn ho).lt k hk)⟩
  ·have hcell : ∀ j, (w.cell? ⟨g, off + j, none⟩) = cs[off + j]? := fun j => hb.cell _
   by_cases hr : l.length + news.length ≤ cap
   ·have hsome : ∀ j, j < (news.map bv).length → (w.cell? ⟨g, off + l.length * 1 + j, none⟩).isSome = true := fun j hj2 => by
     rw [Nat.mul_one, Nat.add_assoc, hcell]
     simp at hj2
     rw [Array.getElem?_eq_getElem (by omega)]; rfl
    have hrun := run_append_room_cells (P := Tryz.prog) w 31 ty 5 i0 Tryz.underlying31 hi g off l.length cap ad news.length sc (news.map bv) (by rw [hz1]; exact hln) hnews (bv_one news) hr (by rw [hz1]; exact hsome) (fun j _ => hb.free _)
    rw [hz1] at hrun
    obtain ⟨cs', hb', hsz⟩ := blk_setCells g 5 (news.map bv) (off + l.length * 1) w cs hb
    refine ⟨_, _, hrun, ⟨_, cap, by rw [List.length_append], by rw [List.length_append]; exact hr, h2, .inr ⟨g, off, cs', rfl, hgB, hb', by omega, fun j u hu => ?_⟩⟩, (mod_setCells (b := g) (news.map bv) (off + l.length * 1) w (Mod.refl _ _)).mono (fun k _ e => by rw [e]; rfl), fun k hk => .inl hk⟩
    rw [← hb'.cell]
    rw [List.map_append] at hu
    by_cases hjl : j < l.length
    ·rw [List.getElem?_append_left (by simpa using hjl)] at hu
     rw [World.cell?_setCells_out _ _ _ _ _ (fun _ _ => .inl (by show off + j < off + l.length * 1; omega)), hcell]
     exact hj j u hu
    ·rw [List.getElem?_append_right (by simp; omega)] at hu
     have hlt := (List.getElem?_eq_some_iff.1 hu).1
     have h5 := World.cell?_setCells_in g (news.map bv) (off + l.length * 1) w hsome (j - (l.map bv).length) hlt
     rw [show off + l.length * 1 + (j - (l.map bv).length) = off + j by simp; omega] at h5
     rw [h5]
     exact (List.getElem?_eq_getElem hlt).symm.trans hu
   ·obtain ⟨v', w', hrun, r1, r2⟩ := run_append_arg_grows (P := Tryz.prog) w 31 ty 5 i0 _ 1 1 Tryz.underlying31 hi hz0 hz1 hz2 rfl (by decide) ⟨g, off, none⟩ l.length cap (l.map bv) (by simp) (fun j u hu => by rw [Addr.add_lit]; exact hb.cellAt _ (hj j u hu)) ad news.length sc (news.map bv) hln hnews (by omega) (by omega) (by omega)
    have ho : OwnB w' w.heap.size v' (l ++ news) := by
     unfold OwnB
     rw [List.length_append, List.map_append]
     exact r1
    exact ⟨v', w', hrun, (OwnO.ofOwn ho).base hB, ((Mod.refl (fun _ => False) _).grown r2 (fun k hk _ => by cases hk)).mono (fun _ _ h => h.elim), fun k hk => .inr ((OwnO.ofOwn ho).lt k hk)⟩
theorem wpList_append_o {w : World} {ops : Array Oper} {rest : List Oper} {o : Oper} {a : Act} {Q : Exit → Act → World → Prop} (hgd : o.guard = none) (s x : Operand)
  (ho : o.op = .call { callee := .builtin .append, args := #[s, x], argTypes := #[31, 31] })
  (B : Nat) (v : Value) (l : List UInt8) (hs : a.eval s = v) (hown : OwnO w B v l) (sv : Value) (news : List UInt8) (hx : a.eval x = sv) (hb : Byts w sv news) (hl : l.length + news.length ≤ 100000000) (hB : B ≤ w.heap.size)
  (h : ∀ a' c' w', OwnO w' B (.slice a' (l.length + news.length) c') (l ++ news) → Mod (fun k => blockOf v = some k) w w' → (∀ k, blockOf (.slice a' (l.length + news.length) c') = some k → blockOf v = some k ∨ (w.heap.size ≤ k ∧ k < w'.heap.size)) → wpList Tryz.prog ops Q rest (a.put o.dst (.slice a' (l.length + news.length) c')) w') : wpList Tryz.prog ops Q (o :: rest) a w := by
 refine wpList_plain hgd fun K hK => ?_
 obtain ⟨v', w', hrun, h1, h2, h3⟩ := run_append_o o.type hown hb hl hB
 obtain ⟨a', c', hv, -⟩ := h1.val
 rw [List.length_append] at hv
 subst hv
 unfold Oper.wp
 simp [execOp, ho, resolve, invoke, builtin, hs, hx, hrun, Result.andThen]
 exact hK _ _ (h a' c' w' h1 h2 h3)
theorem piece_l {w : World} {p : Option Addr} {n cap k : Nat} (hk : k ≤ n) : (Instr.slice 31 (.slice p n cap) (some (.int .i64 (k : Int))) none none).run Tryz.prog w = .ok (sliced p k n cap 1) w := by
 have e := run_slice_l (P := Tryz.prog) w 31 p n cap Tryz.underlying31 .i64 (k : Int) (by omega) (by omega)
 have es : (Go.sizeOf (Program.elem Tryz.prog 31)).run Tryz.prog w = .ok 1 w := by kernel_rfl
 rw [es] at e
 simpa using e
theorem wpList_slice_o {ops : Array Oper} {rest : List Oper} {op : Oper} {a : Act} {w : World} {Q : Exit → Act → World → Prop} (hg : op.guard = none) (x l : Operand) (ho : op.op = .slice 31 x (some l) none none) (p : Option Addr) (n cap k : Nat) (hx : a.eval x = .slice p n cap) (hl : a.eval l = .int .i64 (k : Int)) (hk : k ≤ n) (v : Value) (hv : sliced p k n cap 1 = v)
  (h : wpList Tryz.prog ops Q rest (a.put op.dst v) w) : wpList Tryz.prog ops Q (op :: rest) a w := by
 subst hv
 refine wpList_plain hg fun K hK => ?_
 have hr : (execOp a.eval op).run Tryz.prog w = .ok (.value (sliced p k n cap 1)) w := by
  unfold execOp
  have e := run_slice_l (P := Tryz.prog) w 31 p n cap Tryz.underlying31 .i64 (k : Int) (by omega) (by omega)
  have e1 := run_sliceAt_slice (P := Tryz.prog) w 31 (.slice p n cap) (some (.int .i64 (k : Int))) none none Tryz.underlying31
  have es : (Go.sizeOf (Program.elem Tryz.prog 31)).run Tryz.prog w = .ok 1 w := by kernel_rfl
  rw [es] at e
  simp only [ho, hx, Option.map_some, Option.map_none, hl, Sem.run_bind, e1, e, Result.andThen_ok, Sem.run_pure, Int.toNat_natCast]
 unfold Oper.wp
 rw [hr]
 exact hK _ _ h
end Go.Proofs.YtahgidkpjmecdaaGreatDoor
set_option maxRecDepth 100000
namespace Go.Proofs.YtahgidkpjmecdaaGreatDoor
open Go.RowKit Go.Maps
structure PM where
 pb : Nat
 bv : Value
def PS (g : PM) : Nat → Prop := fun k => k = g.pb ∨ blockOf g.bv = some k
structure PBuf (B : Nat) (w : World) (g : PM) (p : Prt) : Prop where
 at0 : B ≤ g.pb
 blk : Blk w g.pb (prtC g.bv p) 83
 own : OwnO w B g.bv p.b
 ne : blockOf g.bv ≠ some g.pb
theorem PBuf.kept {S : Nat → Prop} {B : Nat} {w w' : World} {g : PM} {p : Prt} (q : PBuf B w g p) (hM : Mod S w w') (hS : ∀ k, PS g k → ¬ S k) : PBuf B w' g p :=
 ⟨q.at0, hM.blk q.blk (hS _ (.inl rfl)), q.own.kept hM (fun k hk => hS k (.inr hk)), q.ne⟩
theorem PBuf.still {B : Nat} {w w' : World} {g : PM} {p : Prt} (q : PBuf B w g p) (hM : Mod (fun _ => False) w w') : PBuf B w' g p := q.kept hM (fun _ _ h => h)
theorem PBuf.lt {B : Nat} {w : World} {g : PM} {p : Prt} (q : PBuf B w g p) : ∀ k, PS g k → B ≤ k ∧ k < w.heap.size := by
 rintro k (rfl | h)
 ·exact ⟨q.at0, q.blk.lt⟩
 ·exact q.own.lt k h
structure SBf (B : Nat) (w : World) (sb mb : Nat) (G : Int → PM) (S : Ses) (ov : Value) : Prop where
 at0 : B ≤ sb
 atm : B ≤ mb
 blk : Blk w sb (sesC mb S ov) 68
 map : IMap 34 .u64 w mb S.dom (fun z => .pointer (some ⟨(G z).pb, 0, none⟩))
 parts : ∀ z ∈ S.dom, PBuf B w (G z) (S.m z)
 apart : ∀ z ∈ S.dom, ∀ z' ∈ S.dom, z ≠ z' → ∀ k, PS (G z) k → ¬ PS (G z') k
 tops : ∀ z ∈ S.dom, ∀ k, PS (G z) k → k ≠ sb ∧ k ≠ mb
 mt : mb ≠ sb
 ids : ∀ z ∈ S.dom, 0 ≤ z ∧ z < 4611686018427387912
 num : nat64 S.limit ∧ nat64 S.code ∧ S.own ≤ 1000 ∧ S.wrote ≤ 1000
def QS (sb mb : Nat) (G : Int → PM) (S : Ses) : Nat → Prop := fun k => k = sb ∨ k = mb ∨ ∃ z ∈ S.dom, PS (G z) k
section
variable {B : Nat} {w w' : World} {sb mb : Nat} {G : Int → PM} {S S' : Ses} {ov ov' : Value}
theorem SBf.kept {X : Nat → Prop} (q : SBf B w sb mb G S ov) (hM : Mod X w w') (hS : ∀ k, QS sb mb G S k → ¬ X k) : SBf B w' sb mb G S ov :=
 ⟨q.at0, q.atm, hM.blk q.blk (hS _ (.inl rfl)), q.map.kept hM (hS _ (.inr (.inl rfl))), fun z hz => (q.parts z hz).kept hM (fun k hk => hS k (.inr (.inr ⟨z, hz, hk⟩))), q.apart, q.tops, q.mt, q.ids, q.num⟩
theorem SBf.still (q : SBf B w sb mb G S ov) (hM : Mod (fun _ => False) w w') : SBf B w' sb mb G S ov := q.kept hM (fun _ _ h => h)
theorem SBf.lt (q : SBf B w sb mb G S ov) : ∀ k, QS sb mb G S k → B ≤ k ∧ k < w.heap.size := by
 rintro k (rfl | rfl | ⟨z, hz, hk⟩)
 ·exact ⟨q.at0, q.blk.lt⟩
 ·exact ⟨q.atm, q.map.lt⟩
 ·exact (q.parts z hz).lt k hk
def QC (B : Nat) (w w' : World) (sb mb : Nat) (G : Int → PM) (S S' : Ses) (ov' : Value) : Prop :=
 ∃ G', SBf B w' sb mb G' S' ov' ∧ (∀ k, QS sb mb G' S' k → QS sb mb G S k ∨ (w.heap.size ≤ k ∧ k < w'.heap.size)) ∧ Mod (QS sb mb G S) w w'
theorem SBf.top (q : SBf B w sb mb G S ov) (hb : Blk w' sb (sesC mb S' ov') 68) (hM : Mod (fun k => k = sb) w w') (hd : S'.dom = S.dom) (hm : S'.m = S.m) (hn : nat64 S'.limit ∧ nat64 S'.code ∧ S'.own ≤ 1000 ∧ S'.wrote ≤ 1000) : SBf B w' sb mb G S' ov' :=
 ⟨q.at0, q.atm, hb, hd ▸ q.map.kept hM q.mt, fun z hz => by
  rw [hd] at hz
  rw [hm]
  exact (q.parts z hz).kept hM (fun k hk e => (q.tops z hz k hk).1 e), fun z hz z' hz' => q.apart z (hd ▸ hz) z' (hd ▸ hz'), fun z hz => q.tops z (hd ▸ hz), q.mt, fun z hz => q.ids z (hd ▸ hz), hn⟩
theorem SBf.topQ (q : SBf B w sb mb G S ov) (hb : Blk w' sb (sesC mb S' ov') 68) (hM : Mod (fun k => k = sb) w w') (hd : S'.dom = S.dom) (hm : S'.m = S.m) (hn : nat64 S'.limit ∧ nat64 S'.code ∧ S'.own ≤ 1000 ∧ S'.wrote ≤ 1000) : QC B w w' sb mb G S S' ov' := by
 refine ⟨G, q.top hb hM hd hm hn, fun k hk => .inl ?_, hM.mono (fun k _ e => .inl e)⟩
 rcases hk with h | h | ⟨z, hz, h⟩
 ·exact .inl h
 ·exact .inr (.inl h)
 ·exact .inr (.inr ⟨z, hd ▸ hz, h⟩)
def updQ (f : Int → PM) (z : Int) (s : PM) : Int → PM := fun y => if y = z then s else f y
theorem updQ_same (f : Int → PM) (z : Int) (s : PM) : updQ f z s z = s := by simp [updQ]
theorem updQ_other {f : Int → PM} {z y : Int} {s : PM} (h : y ≠ z) : updQ f z s y = f y := by simp [updQ, h]
theorem SBf.part (q : SBf B w sb mb G S ov) {z : Int} (hz : z ∈ S.dom) {g' : PM} {p' : Prt} (hq : PBuf B w' g' p') (hsb : g'.pb = (G z).pb) (hsub : ∀ k, PS g' k → PS (G z) k ∨ (w.heap.size ≤ k ∧ k < w'.heap.size)) (hM : Mod (PS (G z)) w w') :
  SBf B w' sb mb (updQ G z g') { S with m := updP S.m z p' } ov := by
 have hlt := q.lt
 refine ⟨q.at0, q.atm, hM.blk q.blk (fun h => (q.tops z hz sb h).1 rfl), ?_, ?_, ?_, ?_, q.mt, q.ids, q.num⟩
 ·have e : (fun y => Value.pointer (some ⟨(updQ G z g' y).pb, 0, none⟩)) = (fun y => Value.pointer (some ⟨(G y).pb, 0, none⟩)) := by
   funext y
   by_cases h : y = z
   ·rw [h, updQ_same, hsb]
   ·rw [updQ_other h]
  rw [e]
  exact q.map.kept hM (fun h => (q.tops z hz mb h).2 rfl)
 ·intro y hy
  dsimp only
  by_cases h : y = z
  ·rw [h, updQ_same, updP_same]; exact hq
  ·rw [updQ_other h, updP_other h]
   exact (q.parts y hy).kept hM (fun k hk hk2 => q.apart y hy z hz h k hk hk2)
 ·intro y hy y' hy' hne k hk hk2
  have hnew : ∀ x ∈ S.dom, x ≠ z → PS (G x) k → ¬ PS g' k := fun x hx hxz h1 h2 => by
   rcases hsub k h2 with h | h
   ·exact q.apart x hx z hz hxz k h1 h
   ·have := (hlt k (.inr (.inr ⟨x, hx, h1⟩))).2
    omega
  by_cases h : y = z
  ·have h' : y' ≠ z := fun e => hne (h.trans e.symm)
   rw [h, updQ_same] at hk
   rw [updQ_other h'] at hk2
   exact hnew y' hy' h' hk2 hk
  ·rw [updQ_other h] at hk
   by_cases h' : y' = z
   ·rw [h', updQ_same] at hk2
    exact hnew y hy h hk hk2
   ·rw [updQ_other h'] at hk2
    exact q.apart y hy y' hy' hne k hk hk2
 ·intro y hy k hk
  by_cases h : y = z
  ·rw [h, updQ_same] at hk
   rcases hsub k hk with e | e
   ·exact q.tops z hz k e
   ·have h1 := (hlt sb (.inl rfl)).2
    have h2 := (hlt mb (.inr (.inl rfl))).2
    exact ⟨fun e2 => by omega, fun e2 => by omega⟩
  ·rw [updQ_other h] at hk
   exact q.tops y hy k hk
theorem QS.part {z : Int} {g' : PM} {p' : Prt} {k : Nat} (h : QS sb mb (updQ G z g') { S with m := updP S.m z p' } k) : QS sb mb G S k ∨ PS g' k := by
 rcases h with e | e | ⟨y, hy, hk⟩
 ·exact .inl (.inl e)
 ·exact .inl (.inr (.inl e))
 ·by_cases h : y = z
  ·rw [h, updQ_same] at hk; exact .inr hk
  ·rw [updQ_other h] at hk; exact .inl (.inr (.inr ⟨y, hy, hk⟩))
theorem SBf.add {w1 : World} (q : SBf B w sb mb G S ov) {z : Int} (hz : z ∉ S.dom) (h0 : 0 ≤ z ∧ z < 4611686018427387912) {g : PM} {p : Prt} (hM1 : Mod (fun _ => False) w w1) (hg : PBuf B w1 g p) (hnew : ∀ k, PS g k → w.heap.size ≤ k) (hM : Mod (fun k => k = mb) w1 w')
  (hI : IMap 34 .u64 w' mb (putD z S.dom) (putF z (.pointer (some ⟨g.pb, 0, none⟩)) (fun z => .pointer (some ⟨(G z).pb, 0, none⟩)))) :
  SBf B w' sb mb (updQ G z g) (S.put z p) ov ∧ (∀ k, QS sb mb (updQ G z g) (S.put z p) k → QS sb mb G S k ∨ (w.heap.size ≤ k ∧ k < w'.heap.size)) ∧ Mod (fun k => k = mb) w w' := by
 have hlt := q.lt
 have hMw : Mod (fun k => k = mb) w w' := (hM1.mono (fun _ _ h => h.elim)).trans hM
 have hsb := (hlt sb (.inl rfl)).2
 have hmb := (hlt mb (.inr (.inl rfl))).2
 have hgk : ∀ k, PS g k → k ≠ mb := fun k hk e => by have := hnew k hk; omega
 have hof : ∀ y, y ∈ (S.put z p).dom → y = z ∨ (y ≠ z ∧ y ∈ S.dom) := fun y hy => by
  rcases mem_putD.1 hy with e | e
  ·exact .inl e
  ·exact .inr ⟨fun e2 => hz (e2 ▸ e), e⟩
 refine ⟨⟨q.at0, q.atm, hMw.blk q.blk (fun e => q.mt e.symm), ?_, ?_, ?_, ?_, q.mt, ?_, q.num⟩, ?_, hMw⟩
 ·have e : putF z (.pointer (some ⟨g.pb, 0, none⟩)) (fun z => Value.pointer (some ⟨(G z).pb, 0, none⟩)) = (fun y => Value.pointer (some ⟨(updQ G z g y).pb, 0, none⟩)) := by
   funext y
   unfold putF
   by_cases h : y = z
   ·rw [if_pos h, h, updQ_same]
   ·rw [if_neg h, updQ_other h]
  rw [← e]; exact hI
 ·intro y hy
  show PBuf B w' (updQ G z g y) (updP S.m z p y)
  rcases hof y hy with e | ⟨e, hd⟩
  ·rw [e, updQ_same, updP_same]
   exact hg.kept hM (fun k hk e => hgk k hk e)
  ·rw [updQ_other e, updP_other e]
   exact (q.parts y hd).kept hMw (fun k hk e2 => (q.tops y hd k hk).2 e2)
 ·intro y hy y' hy' hne k hk hk2
  rcases hof y hy with e | ⟨e, hd⟩
  ·rw [e, updQ_same] at hk
   rcases hof y' hy' with e' | ⟨e', hd'⟩
   ·exact hne (e.trans e'.symm)
   ·rw [updQ_other e'] at hk2
    have h1 := (hlt k (.inr (.inr ⟨y', hd', hk2⟩))).2
    have h2 := hnew k hk
    omega
  ·rw [updQ_other e] at hk
   rcases hof y' hy' with e' | ⟨e', hd'⟩
   ·rw [e', updQ_same] at hk2
    have h1 := (hlt k (.inr (.inr ⟨y, hd, hk⟩))).2
    have h2 := hnew k hk2
    omega
   ·rw [updQ_other e'] at hk2
    exact q.apart y hd y' hd' hne k hk hk2
 ·intro y hy k hk
  rcases hof y hy with e | ⟨e, hd⟩
  ·rw [e, updQ_same] at hk
   have h2 := hnew k hk
   exact ⟨fun e => by omega, fun e => by omega⟩
  ·rw [updQ_other e] at hk
   exact q.tops y hd k hk
 ·intro y hy
  rcases hof y hy with e | ⟨e, hd⟩
  ·rw [e]; exact h0
  ·exact q.ids y hd
 ·rintro k (e | e | ⟨y, hy, hk⟩)
  ·exact .inl (.inl e)
  ·exact .inl (.inr (.inl e))
  ·rcases hof y hy with e | ⟨e, hd⟩
   ·rw [e, updQ_same] at hk
    exact .inr ⟨hnew k hk, Nat.lt_of_lt_of_le (hg.lt k hk).2 hM.size⟩
   ·rw [updQ_other e] at hk
    exact .inl (.inr (.inr ⟨y, hd, hk⟩))
end
def sesTh (B sb mb : Nat) (G : Int → PM) (S : Ses) (ov : Value) : Th := ⟨fun w => SBf B w sb mb G S ov, QS sb mb G S, fun _ _ _ q hM hS => q.kept hM hS⟩
theorem At.ses {W w w' : World} (l : List Th) {sb mb : Nat} {G : Int → PM} {S S' : Ses} {ov ov' : Value} {m : List Th} (h : At W w (l ++ sesTh W.heap.size sb mb G S ov :: m)) (hc : QC W.heap.size w w' sb mb G S S' ov') : ∃ G', At W w' (l ++ sesTh W.heap.size sb mb G' S' ov' :: m) := by
 obtain ⟨G', q, hs, hM⟩ := hc
 exact ⟨G', h.turn l (o' := sesTh W.heap.size sb mb G' S' ov') q hs hM⟩
theorem Side.perm {B : Nat} {w : World} {l m : List Th} (p : l.Perm m) : Side B w l → Side B w m := by
 induction p with
 | nil => exact id
 | cons x p ih => exact fun h => ⟨h.1, fun q hq => h.2.1 q (p.mem_iff.2 hq), ih h.2.2⟩
 | swap x y l => exact fun h => h.swap
 | trans _ _ i1 i2 => exact fun h => i2 (i1 h)
theorem At.perm {W w : World} {l m : List Th} (h : At W w l) (p : l.Perm m) : At W w m := ⟨h.1.perm p, h.2⟩
theorem At.drop {W w : World} {o : Th} {l : List Th} (h : At W w (o :: l)) : At W w l := ⟨h.1.2.2, h.2⟩
theorem At.front {W w : World} (l : List Th) {o : Th} {m : List Th} (h : At W w (l ++ o :: m)) : At W w (o :: (l ++ m)) := ⟨h.1.front, h.2⟩
theorem At.back {W w : World} (l : List Th) {o : Th} {m : List Th} (h : At W w (o :: (l ++ m))) : At W w (l ++ o :: m) := ⟨h.1.back, h.2⟩
def takeT2 (T : Tb) (f : Fr) : Tb := if f.k = 8 then comeT T f.id f.a f.d f.fl else if f.k = 17 then limitT T f.id f.a else { T with data := max T.data f.a }
def takeC2 (T : Tb) (f : Fr) : Prop := (f.k = 8 ∧ (f.id : Int) < 4611686018427387912 ∧ Small T ∧ ComeOk T f.id f.a f.d.length f.fl) ∨ (f.k = 17 ∧ okId f.id ∧ (f.id : Int) ∈ T.dom ∧ findE T f.id true = 0 ∧ nat64 f.a) ∨ (f.k = 16 ∧ nat64 f.a)
theorem take2_s {W w : World} (l : List Th) {tb mb : Nat} {G : Int → SM} {T : Tb} {m : List Th} (h : At W w (l ++ tabTh W.heap.size tb mb G T :: m)) {f : Fr} {vd vr : Value} (hf : FrV w f vd vr) (hc : takeC2 T f) :
  Calls Tryz.prog 33 #[.pointer (some ⟨tb, 0, none⟩), .agg (frC f vd vr)] w fun e w' => e = .returned (.int .i64 0) ∧ ∃ G', At W w' (l ++ tabTh W.heap.size tb mb G' (takeT2 T f) :: m) := by
 have q : TBuf W.heap.size w tb mb G T := h.get l
 have key : ∀ {n : Nat} {T' : Tb}, (f.k = 8 ∨ f.k = 4 ∨ f.k = 17 ∨ f.k = 16) → (n = if f.k = 8 then 57 else if f.k = 4 then 58 else if f.k = 17 then 60 else 61) → (∀ w1, Mod (fun _ => False) w w1 → Calls Tryz.prog n #[.pointer (some ⟨tb, 0, none⟩), .agg (frC f vd vr)] w1 fun e w' => TErr W.heap.size w1 w' tb mb G T T' 0 e) → takeT2 T f = T' → Calls Tryz.prog 33 #[.pointer (some ⟨tb, 0, none⟩), .agg (frC f vd vr)] w fun e w' => e = .returned (.int .i64 0) ∧ ∃ G', At W w' (l ++ tabTh W.heap.size tb mb G' (takeT2 T f) :: m) := by
  intro n T' hk hn hcl he
  rw [he]
  exact (take_by q hf.t hk hn hcl).mono fun _ _ ⟨he, hc⟩ => ⟨he, h.tab l hc⟩
 rcases hc with ⟨hk, h1, h2, h3⟩ | ⟨hk, h1, h2, h3, h4⟩ | ⟨hk, h1⟩
 ·exact key (.inl hk) (by rw [if_pos hk]) (fun w1 hM => takeStream_any (q.still hM) hf.t (hf.kept hM).d h1 h2 h3) (by unfold takeT2; rw [if_pos hk])
 ·exact key (.inr (.inr (.inl hk))) (by rw [hk]; rfl) (fun w1 hM => takeLimit_any (q.still hM) hf.t h1 h2 h3 h4) (by unfold takeT2; rw [if_neg (by omega), if_pos hk])
 ·exact key (.inr (.inr (.inr hk))) (by rw [hk]; rfl) (fun w1 hM => takeData_any (q.still hM) hf.t h1) (by unfold takeT2; rw [if_neg (by omega), if_neg (by omega)])
def passL : List Fr → Tb → Tb → Tb × Tb
 | [], A, B => (A, B)
 | f :: r, A, B => passL r (ackT A f) (takeT2 B f)
def passC : List Fr → Tb → Tb → Prop
 | [], _, _ => True
 | f :: r, A, B => takeC2 B f ∧ okId f.id ∧ (f.d.length : Int) ≤ 1000000 ∧ passC r (ackT A f) (takeT2 B f)
def halfR (A B : Tb) : Tb × Tb := passL (framesO A 5000).l (framesO A 5000).T B
def halfC (A B : Tb) : Prop := FInv A ∧ passC (framesO A 5000).l (framesO A 5000).T B
def roundR (A B : Tb) : Tb × Tb := ((halfR (halfR A B).2 (halfR A B).1).2, (halfR (halfR A B).2 (halfR A B).1).1)
def carryN : Nat → Tb → Tb → Tb × Tb
 | 0, A, B => (A, B)
 | n + 1, A, B => carryN n (roundR A B).1 (roundR A B).2
def carryC : Nat → Tb → Tb → Prop
 | 0, _, _ => True
 | n + 1, A, B => halfC A B ∧ halfC (halfR A B).2 (halfR A B).1 ∧ carryC n (roundR A B).1 (roundR A B).2
def CarryR (W w' : World) (ta ma tb mb : Nat) (A B : Tb) (m : List Th) (e : Ending) : Prop := e = .returned (.tuple #[]) ∧ ∃ GA GB, At W w' (tabTh W.heap.size ta ma GA A :: tabTh W.heap.size tb mb GB B :: m)
theorem drop_fr {l : List Fr} {k : Nat} {f : Fr} (h : l[k]? = some f) : l.drop k = f :: l.drop (k + 1) := by
 obtain ⟨hlt, rfl⟩ := List.getElem?_eq_some_iff.1 h
 exact List.drop_eq_getElem_cons hlt
theorem At.swap {W w : World} {a b : Th} {l : List Th} (h : At W w (a :: b :: l)) : At W w (b :: a :: l) := ⟨h.1.swap, h.2⟩
theorem At.swap2 {W w : World} {a b c : Th} {l : List Th} (h : At W w (a :: b :: c :: l)) : At W w (a :: c :: b :: l) := h.perm ((List.Perm.swap c b l).cons a)
set_option maxHeartbeats 8000000 in
set_option maxRecDepth 10000 in
theorem carry_s {W w : World} {ta ma tb mb : Nat} {GA GB : Int → SM} {A B : Tb} {m : List Th} (h : At W w (tabTh W.heap.size ta ma GA A :: tabTh W.heap.size tb mb GB B :: m)) (hT : Tabs W) (hc : carryC 3 A B) :
  Calls Tryz.prog 15 #[.pointer (some ⟨ta, 0, none⟩), .pointer (some ⟨tb, 0, none⟩)] w fun e w' => CarryR W w' ta ma tb mb (carryN 3 A B).1 (carryN 3 A B).2 m e := by
 obtain ⟨R, hR⟩ : ∃ R, carryN 3 A B = R := ⟨_, rfl⟩
 rw [hR]
 have HS := Lib.hid h
 have HC := Lib.hid (And.intro hc hR)
 have HT := Lib.hid hT
 clear h hT hc hR
 go_enter Tryz.func15, Tryz.ntmps15
 go_wp2_with fail
 go_loopw [4] (fun s4 wr => ∃ (i : Nat) (A1 B1 : Tb) (GA1 GB1 : Int → SM), i ≤ 3 ∧ s4 = .int .i64 (i : Int) ∧ Hid (At W wr (tabTh W.heap.size ta ma GA1 A1 :: tabTh W.heap.size tb mb GB1 B1 :: m) ∧ carryC (3 - i) A1 B1 ∧ carryN (3 - i) A1 B1 = R)) (fun s4 _ => 3 - (intOf s4).toNat)
 case atStart => exact ⟨0, A, B, GA, GB, by omega, rfl, Lib.hid ⟨HS.out, HC.out.1, HC.out.2⟩⟩
 case round =>
  obtain ⟨i, A1, B1, GA1, GB1, hi, rfl, HI⟩ := hrel
  by_cases hlt : i < 3
  ·obtain ⟨c1, c2, c3⟩ : halfC A1 B1 ∧ halfC (halfR A1 B1).2 (halfR A1 B1).1 ∧ carryC (3 - (i + 1)) (roundR A1 B1).1 (roundR A1 B1).2 := by
    have h1 := HI.out.2.1
    rw [show 3 - i = (3 - (i + 1)) + 1 by omega] at h1
    exact h1
   have c4 : carryN (3 - (i + 1)) (roundR A1 B1).1 (roundR A1 B1).2 = R := by
    have h1 := HI.out.2.2
    rw [show 3 - i = (3 - (i + 1)) + 1 by omega] at h1
    exact h1
   have HF1 := Lib.hid (frames_s [] HI.out.1 HT.out c1.1 5000 (by decide))
   have HC1 := Lib.hid c1
   have HC2 := Lib.hid c2
   have HC3 := Lib.hid (And.intro c3 c4)
   have t1 : decide ((i : Int) < 3) = true := decide_eq_true (by omega)
   have t2 : decide (i < 3) = true := decide_eq_true hlt
   have HIL := Lib.hid hlt
   clear c1 c2 c3 c4 hlt
   obtain ⟨L1, hL1⟩ : ∃ L1, (framesO A1 5000).l = L1 := ⟨_, rfl⟩
   obtain ⟨n1, hn1⟩ : ∃ n1, L1.length = n1 := ⟨_, rfl⟩
   rw [hL1, hn1] at HF1
   have HL1 := Lib.hid (And.intro hL1 hn1)
   clear hL1 hn1
   go_wp2_with (first
    | (go_at_call 32; go_loud ((with_reducible refine HF1.out.mono ?_); rintro e w2 ⟨a2, cc2, D2, E2, rfl, h2, -, -, hle2⟩; have HS2 : Hid (At W w2 (frsTh D2 E2 (.slice a2 n1 cc2) L1 :: tabTh W.heap.size ta ma GA1 (framesO A1 5000).T :: tabTh W.heap.size tb mb GB1 B1 :: m)) := Lib.hid h2; clear h2))
    | fail)
   go_loopw [6] (fun s6 wq => ∃ (j : Nat) (A2 B2 : Tb) (GA2 GB2 : Int → SM), j ≤ n1 ∧ s6 = .int .i64 (j : Int) ∧ Hid (At W wq (frsTh D2 E2 (.slice a2 n1 cc2) L1 :: tabTh W.heap.size ta ma GA2 A2 :: tabTh W.heap.size tb mb GB2 B2 :: m) ∧ passC (L1.drop j) A2 B2 ∧ passL (L1.drop j) A2 B2 = halfR A1 B1)) (fun s6 _ => n1 - (intOf s6).toNat)
   case atStart => exact ⟨0, (framesO A1 5000).T, B1, GA1, GB1, Nat.zero_le _, rfl, Lib.hid ⟨HS2.out, by have h1 := HC1.out.2; rw [HL1.out.1] at h1; exact h1, by unfold halfR; rw [HL1.out.1]; rfl⟩⟩
   case round =>
    obtain ⟨j, A2, B2, GA2, GB2, hj, rfl, HJ⟩ := hrel
    by_cases hlj : j < n1
    ·have t3 : decide ((j : Int) < (n1 : Int)) = true := decide_eq_true (by omega)
     have t4 : decide (j < n1) = true := decide_eq_true hlj
     obtain ⟨f, hf⟩ : ∃ f, L1[j]? = some f := ⟨_, List.getElem?_eq_getElem (by rw [HL1.out.2]; exact hlj)⟩
     have hpc := HJ.out.2.1
     have hpl := HJ.out.2.2
     rw [drop_fr hf] at hpc hpl
     obtain ⟨k1, k2, k3, k4⟩ := hpc
     obtain ⟨g, vd, ha2, hv, hr⟩ := At.frame (l := []) HJ.out.1 hf k3
     subst ha2
     have HL6 : Hid ((Instr.loadAt 91 (.pointer (some ⟨g, j * 24, none⟩))).run Tryz.prog wr = .ok (.agg (frC f vd nilS)) wr) := Lib.hid (run_loadAt_mid wr g (j * 24) 91 (frL f vd nilS) _ hr Tryz.underlying91 rfl (sizeFrR f vd nilS hv.t))
     have HTK := Lib.hid (take2_s [_, _] HJ.out.1 hv k1)
     have HK := Lib.hid (And.intro k2 (And.intro k3 (And.intro k4 (And.intro hpl (And.intro hf hlj)))))
     have hj5 : (j : Int) < (n1 : Int) := by omega
     clear k1 k2 k3 k4 hpl hv hr hf
     go_wp2_with (first
      | ((with_reducible refine wpList_load_g 91 (.tmp 23) ?_ ?_ (.pointer (some ⟨g, j * 24, none⟩)) (.agg (frC f vd nilS)) ?_ HL6.out ?_); (iterate 3 exact rfl))
      | (go_at_call 33; go_loud ((with_reducible refine HTK.out.mono ?_); rintro e w7 ⟨rfl, G7, h7⟩; have h7' : At W w7 (frsTh D2 E2 (.slice (some ⟨g, 0, none⟩) n1 cc2) L1 :: tabTh W.heap.size ta ma GA2 A2 :: tabTh W.heap.size tb mb G7 (takeT2 B2 f) :: m) := h7; obtain ⟨g2, vd2, e2, hv2, hr2⟩ := At.frame (l := []) h7' HK.out.2.2.2.2.1 HK.out.2.1; simp only [Option.some.injEq, Addr.mk.injEq, and_true] at e2; subst e2; have HL7 : Hid ((Instr.loadAt 91 (.pointer (some ⟨g, j * 24, none⟩))).run Tryz.prog w7 = .ok (.agg (frC f vd2 nilS)) w7) := Lib.hid (run_loadAt_mid w7 g (j * 24) 91 (frL f vd2 nilS) _ hr2 Tryz.underlying91 rfl (sizeFrR f vd2 nilS hv2.t)); have HAK := Lib.hid (acked_s [_] h7' hv2 HK.out.1 (by have := HK.out.2.1; omega)); clear h7 h7' hv2 hr2))
      | ((with_reducible refine wpList_load_g 91 (.tmp 29) ?_ ?_ (.pointer (some ⟨g, j * 24, none⟩)) (.agg (frC f vd2 nilS)) ?_ HL7.out ?_); (iterate 3 exact rfl))
      | (go_at_call 34; go_loud ((with_reducible refine HAK.out.mono ?_); rintro e w8 ⟨rfl, G8, h8⟩; have h8' : At W w8 (frsTh D2 E2 (.slice (some ⟨g, 0, none⟩) n1 cc2) L1 :: tabTh W.heap.size ta ma G8 (ackT A2 f) :: tabTh W.heap.size tb mb G7 (takeT2 B2 f) :: m) := h8; have HS8 := Lib.hid h8'; clear h8 h8'))
      | fail)
     go_roundw
     case rel => exact ⟨j + 1, ackT A2 f, takeT2 B2 f, G8, G7, by have := HK.out.2.2.2.2.2; omega, by simp, Lib.hid ⟨HS8.out, HK.out.2.2.1, HK.out.2.2.2.1⟩⟩
     case measure => have := HK.out.2.2.2.2.2; simp [intOf]; omega
    ·have HQ : Hid ((A2, B2) = halfR A1 B1) := Lib.hid (by
      have h1 := HJ.out.2.2
      rw [List.drop_of_length_le (by rw [HL1.out.2]; omega)] at h1
      exact h1)
     have t3 : decide ((j : Int) < (n1 : Int)) = false := decide_eq_false (by omega)
     have t4 : decide (j < n1) = false := decide_eq_false hlj
     clear hlj
     have HF2 := Lib.hid (frames_s [_, _] HJ.out.1 HT.out (by have h1 := HC2.out.1; rw [← HQ.out] at h1; exact h1) 5000 (by decide))
     obtain ⟨L3, hL3⟩ : ∃ L3, (framesO B2 5000).l = L3 := ⟨_, rfl⟩
     obtain ⟨n3, hn3⟩ : ∃ n3, L3.length = n3 := ⟨_, rfl⟩
     rw [hL3, hn3] at HF2
     have HL3 := Lib.hid (And.intro hL3 hn3)
     clear hL3 hn3
     go_wp2_with (first
      | (go_at_call 32; go_loud ((with_reducible refine HF2.out.mono ?_); rintro e w5 ⟨a5, cc5, D5, E5, rfl, h5, -, -, hle5⟩; have h5' : At W w5 (frsTh D5 E5 (.slice a5 n3 cc5) L3 :: frsTh D2 E2 (.slice a2 n1 cc2) L1 :: tabTh W.heap.size ta ma GA2 A2 :: tabTh W.heap.size tb mb GB2 (framesO B2 5000).T :: m) := h5; have h6 : At W w5 (frsTh D5 E5 (.slice a5 n3 cc5) L3 :: tabTh W.heap.size ta ma GA2 A2 :: tabTh W.heap.size tb mb GB2 (framesO B2 5000).T :: m) := h5'.swap.drop; have HS5 := Lib.hid h6.swap2; clear h5 h5' h6))
      | fail)
     have HQ1 := HQ
     have HX1 : Hid (passC (framesO B2 5000).l (framesO B2 5000).T A2) := Lib.hid (by have h1 := HC2.out.2; rw [← HQ.out] at h1; exact h1)
     have HR1 : Hid (halfR (halfR A1 B1).2 (halfR A1 B1).1 = halfR B2 A2) := Lib.hid (by rw [← HQ.out])
     have HA1 := HJ
     clear HQ HJ
     go_loopw [7] (fun s6 wq => ∃ (j : Nat) (A3 B3 : Tb) (GA3 GB3 : Int → SM), j ≤ n3 ∧ s6 = .int .i64 (j : Int) ∧ Hid (At W wq (frsTh D5 E5 (.slice a5 n3 cc5) L3 :: tabTh W.heap.size tb mb GA3 A3 :: tabTh W.heap.size ta ma GB3 B3 :: m) ∧ passC (L3.drop j) A3 B3 ∧ passL (L3.drop j) A3 B3 = halfR (halfR A1 B1).2 (halfR A1 B1).1)) (fun s6 _ => n3 - (intOf s6).toNat)
     case atStart => exact ⟨0, (framesO B2 5000).T, A2, GB2, GA2, Nat.zero_le _, rfl, Lib.hid ⟨HS5.out, by have h1 := HX1.out; rw [HL3.out.1] at h1; exact h1, by rw [HR1.out]; unfold halfR; rw [HL3.out.1]; rfl⟩⟩
     case round =>
      obtain ⟨j, A3, B3, GA3, GB3, hj, rfl, HJ⟩ := hrel
      by_cases hlj : j < n3
      ·have t3 : decide ((j : Int) < (n3 : Int)) = true := decide_eq_true (by omega)
       have t4 : decide (j < n3) = true := decide_eq_true hlj
       obtain ⟨f, hf⟩ : ∃ f, L3[j]? = some f := ⟨_, List.getElem?_eq_getElem (by rw [HL3.out.2]; exact hlj)⟩
       have hpc := HJ.out.2.1
       have hpl := HJ.out.2.2
       rw [drop_fr hf] at hpc hpl
       obtain ⟨k1, k2, k3, k4⟩ := hpc
       obtain ⟨g, vd, ha2, hv, hr⟩ := At.frame (l := []) HJ.out.1 hf k3
       subst ha2
       have HL6 : Hid ((Instr.loadAt 91 (.pointer (some ⟨g, j * 24, none⟩))).run Tryz.prog wr = .ok (.agg (frC f vd nilS)) wr) := Lib.hid (run_loadAt_mid wr g (j * 24) 91 (frL f vd nilS) _ hr Tryz.underlying91 rfl (sizeFrR f vd nilS hv.t))
       have HTK := Lib.hid (take2_s [_, _] HJ.out.1 hv k1)
       have HK := Lib.hid (And.intro k2 (And.intro k3 (And.intro k4 (And.intro hpl (And.intro hf hlj)))))
       have hj5 : (j : Int) < (n3 : Int) := by omega
       clear k1 k2 k3 k4 hpl hv hr hf
       go_wp2_with (first
        | ((with_reducible refine wpList_load_g 91 (.tmp 43) ?_ ?_ (.pointer (some ⟨g, j * 24, none⟩)) (.agg (frC f vd nilS)) ?_ HL6.out ?_); (iterate 3 exact rfl))
        | (go_at_call 33; go_loud ((with_reducible refine HTK.out.mono ?_); rintro e w7 ⟨rfl, G7, h7⟩; have h7' : At W w7 (frsTh D5 E5 (.slice (some ⟨g, 0, none⟩) n3 cc5) L3 :: tabTh W.heap.size tb mb GA3 A3 :: tabTh W.heap.size ta ma G7 (takeT2 B3 f) :: m) := h7; obtain ⟨g2, vd2, e2, hv2, hr2⟩ := At.frame (l := []) h7' HK.out.2.2.2.2.1 HK.out.2.1; simp only [Option.some.injEq, Addr.mk.injEq, and_true] at e2; subst e2; have HL7 : Hid ((Instr.loadAt 91 (.pointer (some ⟨g, j * 24, none⟩))).run Tryz.prog w7 = .ok (.agg (frC f vd2 nilS)) w7) := Lib.hid (run_loadAt_mid w7 g (j * 24) 91 (frL f vd2 nilS) _ hr2 Tryz.underlying91 rfl (sizeFrR f vd2 nilS hv2.t)); have HAK := Lib.hid (acked_s [_] h7' hv2 HK.out.1 (by have := HK.out.2.1; omega)); clear h7 h7' hv2 hr2))
        | ((with_reducible refine wpList_load_g 91 (.tmp 49) ?_ ?_ (.pointer (some ⟨g, j * 24, none⟩)) (.agg (frC f vd2 nilS)) ?_ HL7.out ?_); (iterate 3 exact rfl))
        | (go_at_call 34; go_loud ((with_reducible refine HAK.out.mono ?_); rintro e w8 ⟨rfl, G8, h8⟩; have h8' : At W w8 (frsTh D5 E5 (.slice (some ⟨g, 0, none⟩) n3 cc5) L3 :: tabTh W.heap.size tb mb G8 (ackT A3 f) :: tabTh W.heap.size ta ma G7 (takeT2 B3 f) :: m) := h8; have HS8 := Lib.hid h8'; clear h8 h8'))
        | fail)
       go_roundw
       case rel => exact ⟨j + 1, ackT A3 f, takeT2 B3 f, G8, G7, by have := HK.out.2.2.2.2.2; omega, by simp, Lib.hid ⟨HS8.out, HK.out.2.2.1, HK.out.2.2.2.1⟩⟩
       case measure => have := HK.out.2.2.2.2.2; simp [intOf]; omega
      ·have HQ : Hid ((A3, B3) = halfR (halfR A1 B1).2 (halfR A1 B1).1) := Lib.hid (by
        have h1 := HJ.out.2.2
        rw [List.drop_of_length_le (by rw [HL3.out.2]; omega)] at h1
        exact h1)
       have t3 : decide ((j : Int) < (n3 : Int)) = false := decide_eq_false (by omega)
       have t4 : decide (j < n3) = false := decide_eq_false hlj
       clear hlj
       go_wp2_with fail
       go_roundw
       case rel => exact ⟨i + 1, (roundR A1 B1).1, (roundR A1 B1).2, GB3, GA3, by have := HIL.out; omega, by simp, Lib.hid ⟨by unfold roundR; rw [← HQ.out]; exact HJ.out.1.drop.swap, HC3.out.1, HC3.out.2⟩⟩
       case measure => have := HIL.out; simp [intOf]; omega
  ·have HX : Hid (R = (A1, B1)) := Lib.hid (by
    have h1 := HI.out.2.2
    rw [show 3 - i = 0 by omega] at h1
    exact h1.symm)
   have t1 : decide ((i : Int) < 3) = false := decide_eq_false (by omega)
   have t2 : decide (i < 3) = false := decide_eq_false hlt
   clear hlt
   go_wp2_with fail
   go_end0
   refine ⟨rfl, GA1, GB1, ?_⟩
   rw [HX.out]
   exact HI.out.1
end Go.Proofs.YtahgidkpjmecdaaGreatDoor
