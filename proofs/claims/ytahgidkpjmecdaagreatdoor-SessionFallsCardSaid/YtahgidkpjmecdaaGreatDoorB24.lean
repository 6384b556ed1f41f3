/- Parts of the proof: UaH UaI UaJ UaK UaL. -/
import Derived.Test.YtahgidkpjmecdaaGreatDoorB23
set_option maxRecDepth 100000
namespace Go.Proofs.YtahgidkpjmecdaaGreatDoor
open Go.RowKit Go.Maps
theorem finish_s {W w : World} (l : List Th) {tb mb : Nat} {G : Int → SM} {T : Tb} {m : List Th} (h : At W w (l ++ tabTh W.heap.size tb mb G T :: m)) {id : Nat} (hi : okId id) :
  Calls Tryz.prog 29 #[.pointer (some ⟨tb, 0, none⟩), .int .u64 (id : Int)] w fun e w' => e = .returned (.int .i64 (fnE T id)) ∧ ∃ G', At W w' (l ++ tabTh W.heap.size tb mb G' (fnT T id) :: m) :=
 (tfinish_any (h.get l) hi).mono fun _ _ ⟨he, hc⟩ => ⟨he, h.tab l hc⟩
theorem start_twice {W w : World} (l : List Th) {sb mb tb : Nat} {G : Int → PM} {S : Ses} {ov : Value} {m : List Th} (h : At W w (l ++ sesTh W.heap.size sb mb G S ov :: m)) (hs : S.started = true) :
  Calls Tryz.prog 10 #[.pointer (some ⟨sb, 0, none⟩), .pointer (some ⟨tb, 0, none⟩)] w fun e w' => w = w' ∧ e = .returned (.int .i64 11) := by
 have q : SBf W.heap.size w sb mb G S ov := h.get l
 have c1 : w.cell? ⟨sb, 1, none⟩ = some (.bool true) := hs ▸ q.blk.cellAt 1 rfl
 clear q h hs
 go_enter Tryz.func10, Tryz.ntmps10
 go_wp2_with fail
 go_ret
 exact ⟨rfl, rfl⟩
def startT (T : Tb) : Tb := wrT (openT T true) (openV T true) startL
def StartR (W w' : World) (sb mb tb mt : Nat) (S : Ses) (T : Tb) (m : List Th) (e : Ending) : Prop := e = .returned (.int .i64 0) ∧ ∃ G' GT', At W w' (sesTh W.heap.size sb mb G' (startS S (openV T true)) nilS :: tabTh W.heap.size tb mt GT' (startT T) :: m)
theorem hfv_settings {w : World} {b : Nat} {C : Array Value} {ty : TypeId} (hb : Blk w b C ty) (hC : C = #[.int .u64 6, .int .u64 1000]) : HFV w settingsF (.slice (some ⟨b, 0, none⟩) 1 1) (.slice none 0 0) := by
 subst hC
 refine ⟨⟨rfl, some ⟨b, 0, none⟩, 1, rfl, Nat.le_refl _, by decide, fun h => by simp at h, fun j u hu => ⟨b, 0, rfl, ?_⟩⟩, Sl.nil w 1, by decide, by decide⟩
 rw [Nat.zero_add]
 exact hb.cellAt j (by
  match j, hu with
  | 0, hu => exact hu
  | 1, hu => exact hu)
theorem startL_len : (hfputL settingsF).length = 5 := by kernel_rfl
theorem start_set {B : Nat} {w : World} {sb mb : Nat} {G : Int → PM} {S : Ses} (q : SBf B w sb mb G S nilS) {id : Nat} (hi : id ≤ 1000) :
  QC B w ((w.setCell ⟨sb, 2, none⟩ (.int .u64 (id : Int))).setCell ⟨sb, 1, none⟩ (.bool true)) sb mb G S (startS S id) nilS :=
 q.topQ ((q.blk.set 2 (.int .u64 (id : Int))).set 1 (.bool true)) (((Mod.refl (fun k => k = sb) w).setCell (p := ⟨sb, 2, none⟩) (fun _ => rfl) _).setCell (p := ⟨sb, 1, none⟩) (fun _ => rfl) _) rfl rfl ⟨q.num.1, q.num.2.1, hi, q.num.2.2.2⟩
set_option maxHeartbeats 4000000 in
set_option maxRecDepth 10000 in
theorem start_s {W w : World} {sb mb tb mt : Nat} {G : Int → PM} {S : Ses} {GT : Int → SM} {T : Tb} {m : List Th} (h : At W w (sesTh W.heap.size sb mb G S nilS :: tabTh W.heap.size tb mt GT T :: m)) (hT : Tabs W) (hs : S.started = false) (hz : (openId T true : Int) ∉ T.dom) (hl : T.dom.length ≤ 1000) (ho : openOk T true = true) :
  Calls Tryz.prog 10 #[.pointer (some ⟨sb, 0, none⟩), .pointer (some ⟨tb, 0, none⟩)] w fun e w' => StartR W w' sb mb tb mt S T m e := by
 have q : SBf W.heap.size w sb mb G S nilS := h.get []
 have qt : TBuf W.heap.size w tb mt GT T := h.get [_]
 have c1 : w.cell? ⟨sb, 1, none⟩ = some (.bool false) := hs ▸ q.blk.cellAt 1 rfl
 have HO := Lib.hid (open_s [_] h true hz hl)
 have e1 : opE T true = 0 := by unfold opE; rw [if_pos ho]
 rw [e1] at HO
 have HS := Lib.hid h
 have HT := Lib.hid hT
 have hid : openV T true ≤ 1000 := by
  unfold openV openId
  rw [if_pos ho]
  have := qt.num
  unfold kindN opN
  repeat' split
  all_goals omega
 have HI := Lib.hid hid
 generalize hv : openV T true = id at *
 have HV := Lib.hid hv
 have HSF := Lib.hid hs
 clear q qt h hT hs hz hl ho e1 hv
 have i0 : (0 : Int) ≤ (id : Int) := by omega
 go_enter Tryz.func10, Tryz.ntmps10
 go_wp2_with (first
  | (go_at_call 25; (with_reducible refine HO.out.mono ?_); rintro e w1 ⟨rfl, G1, h1⟩; have HS1 := Lib.hid h1; have q1 : SBf W.heap.size w1 sb mb G S nilS := h1.get []; have k1 : w1.cell? ⟨sb, 1, none⟩ = some (.bool false) := HSF.out ▸ q1.blk.cellAt 1 rfl; have k2 : w1.cell? ⟨sb, 2, none⟩ = some (.int .u64 (S.own : Int)) := q1.blk.cellAt 2 rfl; have f1 := q1.blk.free 1; have f2 := q1.blk.free 2; clear h1 q1)
  | (go_at_call 27; go_loud (obtain ⟨G2, h2⟩ := At.ses [] HS1.out (start_set (HS1.out.get []) HI.out); have HS2 := Lib.hid h2; clear h2; generalize hW2 : (w1.setCell ⟨sb, 2, none⟩ (.int .u64 (id : Int))).setCell ⟨sb, 1, none⟩ (.bool true) = W2 at *; have hz : W2.heap.size = w1.heap.size := (by rw [← hW2]; simp [World.setCell]); rw [← hz]; have hz2 : (W2.alloc (.cells #[.int .u8 0] 5)).heap.size = W2.heap.size + 1 := (by simp); have hb0 := Blk.new W2 #[.int .u8 0] 5; have hb1 := Blk.new (W2.alloc (.cells #[.int .u8 0] 5)) #[.int .u64 6, .int .u64 1000] 74; have hb0' := hb0.alloc (.cells #[.int .u64 6, .int .u64 1000] 74); have HM2 : Hid (Mod (fun _ => False) W2 ((W2.alloc (.cells #[.int .u8 0] 5)).alloc (.cells #[.int .u64 6, .int .u64 1000] 74))) := Lib.hid (((Mod.refl _ _).alloc _).alloc _); rw [hz2] at hb1; have HB0 := Lib.hid hb0'; have HB1 := Lib.hid hb1; clear hW2 hz hz2 hb0 hb1 hb0'; generalize (W2.alloc (.cells #[.int .u8 0] 5)).alloc (.cells #[.int .u64 6, .int .u64 1000] 74) = W3 at *; have HS3 := Lib.hid (HS2.out.still HM2.out); have HPU : Hid (Calls Tryz.prog 27 #[.agg #[.int .i64 4, .int .u64 0, .slice (some ⟨W2.heap.size + 1, 0, none⟩) 1 1, .slice none 0 0]] W3 fun e w' => ∃ v, e = .returned v ∧ OwnB w' W3.heap.size v (hfputL settingsF) ∧ Mod (fun _ => False) W3 w') := Lib.hid (hput_any (HS3.out.tabs HT.out) (hfv_settings HB1.out rfl)); (with_reducible refine HPU.out.mono ?_); rintro e w4 ⟨vp, rfl, hvp, hm⟩; obtain ⟨pa, pc, rfl, -⟩ := Sl.val hvp.byts; rw [startL_len] at hvp; rw [startL_len]; have HS4 := Lib.hid (HS3.out.still hm); have HVP := Lib.hid hvp; have HR0 : Hid (OwnB w4 W2.heap.size (.slice (some ⟨W2.heap.size, 0, none⟩) 1 1) [0]) := Lib.hid (own_of_blk (hm.blk HB0.out (fun h => h)) (Nat.le_refl _) rfl (by decide)); have HM4 := Lib.hid (HM2.out.trans hm); have HSZ : Hid (W2.heap.size ≤ w4.heap.size) := Lib.hid (Nat.le_trans HM2.out.size hm.size); clear hvp hm))
  | ((with_reducible refine wpList_append_b ?_ (.tmp 36) (.tmp 40) ?_ (.slice (some ⟨W2.heap.size, 0, none⟩) 1 1) [0] W2.heap.size 6 ?_ HR0.out (.slice pa 5 pc) (hfputL settingsF) ?_ HVP.out.byts startL ?_ ?_ ?_ ?_ ?_); (iterate 5 exact rfl); (· rw [startL_len]; rfl); (· decide); (· exact HSZ.out); intro ap cp w5 hA; have HA := Lib.hid hA; clear hA)
  | (go_at_call 26; go_loud ((have h5 := HS2.out.still (HA.out.modF HM4.out (Nat.le_refl _))); (have HC := Lib.hid (write_s [_] h5 (id := id) (by unfold okId; omega) HA.out.byts (by decide))); (with_reducible refine HC.out.mono ?_); clear HC h5; rintro e w6 ⟨rfl, G6, hs⟩; have HS6 := Lib.hid hs; clear hs))
  | fail)
 go_ret
 refine ⟨rfl, G2, G6, ?_⟩
 unfold startT
 rw [HV.out]
 exact HS6.out
theorem SBf.addNew {B : Nat} {w : World} {sb mb : Nat} {G : Int → PM} {S : Ses} {ov : Value} (q : SBf B w sb mb G S ov) {id : Nat} (hz : (id : Int) ∉ S.dom) (hi : (id : Int) < 4611686018427387912) (hl : S.dom.length ≤ 1000) (p : Prt) (hp : p.b = []) (hB : B ≤ w.heap.size) :
  ∃ w', (Instr.mapUpdate 66 (.map (some mb)) (.int .u64 (id : Int)) (.pointer (some ⟨w.heap.size, 0, none⟩))).run Tryz.prog (w.alloc (.cells (prtC (.slice none 0 0) p) 83)) = .ok () w' ∧
   SBf B w' sb mb (updQ G id ⟨w.heap.size, .slice none 0 0⟩) (S.put id p) ov ∧ (∀ k, QS sb mb (updQ G id ⟨w.heap.size, .slice none 0 0⟩) (S.put id p) k → QS sb mb G S k ∨ (w.heap.size ≤ k ∧ k < w'.heap.size)) ∧ Mod (fun k => k = mb) w w' := by
 have hM0 : Mod (fun _ => False) w (w.alloc (.cells (prtC (.slice none 0 0) p) 83)) := (Mod.refl _ _).alloc _
 obtain ⟨w', hr, hI, hM⟩ := (q.still hM0).map.put Tryz.underlying34 (t := 66) (e := 81) (z := (id : Int)) (.pointer (some ⟨w.heap.size, 0, none⟩)) (u64_wf (by omega)) (by unfold maxLen; omega) Tryz.underlying66
 have hg : PBuf B (w.alloc (.cells (prtC (.slice none 0 0) p) 83)) ⟨w.heap.size, .slice none 0 0⟩ p := ⟨hB, Blk.new _ _ _, by rw [hp]; exact OwnO.nil _ _, by simp [blockOf]⟩
 refine ⟨w', hr, q.add hz ⟨by omega, hi⟩ hM0 hg (fun k hk => ?_) hM hI⟩
 rcases hk with rfl | h
 ·exact Nat.le_refl _
 ·cases h
theorem ask_no {W w : World} (l : List Th) {sb mb tb : Nat} {G : Int → PM} {S : Ses} {ov : Value} {m : List Th} (h : At W w (l ++ sesTh W.heap.size sb mb G S ov :: m)) (hc : S.client = true) (hs : S.started = true) (ho : S.over = false) (hl : S.limited = true) (v dv : Value) :
  Calls Tryz.prog 11 #[.pointer (some ⟨sb, 0, none⟩), .pointer (some ⟨tb, 0, none⟩), v, dv] w fun e w' => w = w' ∧ e = .returned (.tuple #[.int .u64 0, .int .i64 8]) := by
 have q : SBf W.heap.size w sb mb G S ov := h.get l
 have c0 : w.cell? ⟨sb, 0, none⟩ = some (.bool true) := hc ▸ q.blk.cellAt 0 rfl
 have c1 : w.cell? ⟨sb, 1, none⟩ = some (.bool true) := hs ▸ q.blk.cellAt 1 rfl
 have c10 : w.cell? ⟨sb, 10, none⟩ = some (.bool false) := ho ▸ q.blk.cellAt 10 rfl
 have c8 : w.cell? ⟨sb, 8, none⟩ = some (.bool true) := hl ▸ q.blk.cellAt 8 rfl
 clear q h hc hs ho hl
 go_enter Tryz.func11, Tryz.ntmps11
 go_wp2_with fail
 go_ret2
 exact ⟨rfl, rfl⟩
def askE (T : Tb) (l : List Fd) (data : List UInt8) : Int := if packE l data ≠ 0 then packE l data else opE T false
def mineP : Prt := { prt0 with mine := true }
def askS (S : Ses) (T : Tb) (l : List Fd) (data : List UInt8) : Ses := if askE T l data = 0 then S.put (openId T false : Int) mineP else S
def askT (T : Tb) (l : List Fd) (data : List UInt8) : Tb := if askE T l data = 0 then fnT (wrT (openT T false) (openId T false) (secO l data)) (openId T false) else T
def askV (T : Tb) (l : List Fd) (data : List UInt8) : Nat := if askE T l data = 0 then openId T false else 0
def AskR (W w' : World) (sb mb tb mt : Nat) (S : Ses) (T : Tb) (m : List Th) (l : List Fd) (data : List UInt8) (e : Ending) : Prop := e = .returned (.tuple #[.int .u64 (askV T l data : Int), .int .i64 (askE T l data)]) ∧ ∃ G' GT', At W w' (sesTh W.heap.size sb mb G' (askS S T l data) nilS :: tabTh W.heap.size tb mt GT' (askT T l data) :: m)
theorem AskR.no {W w' : World} {sb mb tb mt : Nat} {S : Ses} {T : Tb} {m : List Th} {l : List Fd} {data : List UInt8} {G : Int → PM} {GT : Int → SM} {z : Int} (hz : askE T l data = z) (h0 : z ≠ 0) (h : At W w' (sesTh W.heap.size sb mb G S nilS :: tabTh W.heap.size tb mt GT T :: m)) : AskR W w' sb mb tb mt S T m l data (.returned (.tuple #[.int .u64 0, .int .i64 z])) := by
 have h1 : ¬ askE T l data = 0 := by rw [hz]; exact h0
 refine ⟨by unfold askV; rw [if_neg h1, hz]; rfl, G, GT, ?_⟩
 unfold askS askT
 rw [if_neg h1, if_neg h1]
 exact h
theorem openId_lt {B : Nat} {w : World} {tb mt : Nat} {GT : Int → SM} {T : Tb} (q : TBuf B w tb mt GT T) (b : Bool) : openId T b ≤ 1000 := by
 unfold openId
 have := q.num
 unfold kindN opN
 repeat' split
 all_goals omega
theorem secO_len (l : List Fd) (data : List UInt8) : (secO l data).length ≤ 2032 := by
 unfold secO
 rw [List.length_append]
 have h1 := hput_lens (f := ⟨1, 0, [], packL l⟩)
 split
 ·simp; omega
 ·have h2 := hput_lens (f := ⟨0, 0, [], data⟩)
  omega
theorem At.utabs {W w : World} {l : List Th} (h : At W w l) (hU : UTabs W) : UTabs w := utabs_mod hU h.2 (fun e => by have := block_lt_of_cell (hU.1 0 (by decide)); dsimp only at this; omega) (fun e => by have := block_lt_of_cell (hU.2 0 (by decide)).1; dsimp only at this; omega)
theorem openT_none {T : Tb} {b : Bool} (h : openOk T b = false) : openT T b = T ∧ opE T b = 5 ∧ openV T b = 0 := by
 have e : ¬ openOk T b = true := by rw [h]; decide
 exact ⟨by unfold openT; rw [if_neg e], by unfold opE; rw [if_neg e], by unfold openV; rw [if_neg e]⟩
set_option maxHeartbeats 4000000 in
set_option maxRecDepth 10000 in
theorem ask_s {W w : World} {sb mb tb mt : Nat} {G : Int → PM} {S : Ses} {GT : Int → SM} {T : Tb} {m : List Th} (h : At W w (sesTh W.heap.size sb mb G S nilS :: tabTh W.heap.size tb mt GT T :: m)) (hT : Tabs W) (hU : UTabs W) (hc : S.client = true) (hs : S.started = true) (ho : S.over = false) (hl : S.limited = false)
  {v dv : Value} {l : List Fd} {data : List UInt8} (hv : FldV w v l) (hn : (l.length : Int) ≤ 100000) (hf : FdsOk l) (hd : Byts w dv data) (hdl : (data.length : Int) ≤ 100000)
  (hz : (openId T false : Int) ∉ T.dom) (hzs : (openId T false : Int) ∉ S.dom) (hlt : T.dom.length ≤ 1000) (hls : S.dom.length ≤ 1000) :
  Calls Tryz.prog 11 #[.pointer (some ⟨sb, 0, none⟩), .pointer (some ⟨tb, 0, none⟩), v, dv] w fun e w' => AskR W w' sb mb tb mt S T m l data e := by
 have q : SBf W.heap.size w sb mb G S nilS := h.get []
 have c0 : w.cell? ⟨sb, 0, none⟩ = some (.bool true) := hc ▸ q.blk.cellAt 0 rfl
 have c1 : w.cell? ⟨sb, 1, none⟩ = some (.bool true) := hs ▸ q.blk.cellAt 1 rfl
 have c10 : w.cell? ⟨sb, 10, none⟩ = some (.bool false) := ho ▸ q.blk.cellAt 10 rfl
 have c8 : w.cell? ⟨sb, 8, none⟩ = some (.bool false) := hl ▸ q.blk.cellAt 8 rfl
 have HP := Lib.hid (packed_any (h.tabs hT) (h.utabs hU) hv hn hf hd hdl)
 have hidl := openId_lt (h.get [_]) false
 have HS := Lib.hid h
 have HZ := Lib.hid (And.intro hz (And.intro hzs (And.intro hlt hls)))
 have HID := Lib.hid hidl
 have HB := Lib.hid h.le
 clear q h hT hU hc hs ho hl hv hn hf hd hdl hz hzs hlt hls hidl
 by_cases hp : packE l data = 0
 ·have hpo : packO l data = secO l data := by unfold packO; rw [if_pos hp]
  unfold PackR at HP
  rw [hpo, hp] at HP
  have HOP := Lib.hid (fun w1 (h1 : At W w1 (sesTh W.heap.size sb mb G S nilS :: tabTh W.heap.size tb mt GT T :: m)) => open_s [_] h1 false HZ.out.1 HZ.out.2.2.1)
  obtain ⟨sn, hsn⟩ : ∃ n : Nat, (secO l data).length = n := ⟨_, rfl⟩
  have HSN := Lib.hid hsn
  have HSL := Lib.hid (secO_len l data)
  clear hsn hpo
  cases hok : openOk T false with
  | false =>
   obtain ⟨e1, e2, e3⟩ := openT_none hok
   have HE : Hid (askE T l data = 5) := Lib.hid (by unfold askE; rw [if_neg (by simpa using hp), e2])
   rw [e1, e2, e3] at HOP
   clear e1 e2 e3 hok hp
   go_enter Tryz.func11, Tryz.ntmps11
   go_wp2_with (first
    | (go_at_call 28; (with_reducible refine HP.out.mono ?_); rintro e w1 ⟨pa, pc, rfl, -, hm⟩; have HS1 := Lib.hid (HS.out.still hm); clear hm)
    | (go_at_call 25; (with_reducible refine (HOP.out _ HS1.out).mono ?_); rintro e w2 ⟨rfl, G2, h2⟩; have HS2 := Lib.hid h2; clear h2)
    | fail)
   go_ret2
   exact AskR.no HE.out (by decide) HS2.out
  | true =>
   have HOP2 := Lib.hid (fun w1 r (h1 : At W w1 (r :: sesTh W.heap.size sb mb G S nilS :: tabTh W.heap.size tb mt GT T :: m)) => open_s [_, _] h1 false HZ.out.1 HZ.out.2.2.1)
   have e2 : opE T false = 0 := by unfold opE; rw [if_pos hok]
   have e3 : openV T false = openId T false := by unfold openV; rw [if_pos hok]
   have HE : Hid (askE T l data = 0) := Lib.hid (by unfold askE; rw [if_neg (by simpa using hp), e2])
   rw [e2, e3] at HOP2
   have HK : Hid (okId (openId T false)) := Lib.hid (by unfold okId; have := HID.out; omega)
   have HA := Lib.hid (fun w1 (q : SBf W.heap.size w1 sb mb G S nilS) (hB : W.heap.size ≤ w1.heap.size) => q.addNew (id := openId T false) HZ.out.2.1 (by have := HID.out; omega) HZ.out.2.2.2 mineP rfl hB)
   generalize hid : openId T false = id at *
   have HIDE := Lib.hid hid
   clear e2 e3 hok hp hid
   go_enter Tryz.func11, Tryz.ntmps11
   go_wp2_with (first
    | (go_at_call 28; (with_reducible refine HP.out.mono ?_); rintro e w1 ⟨pa, pc, rfl, hvp, hm⟩; rw [HSN.out] at hvp; rw [HSN.out]; have HS1 := Lib.hid (HS.out.push hm (rowTh W.heap.size (.slice pa sn pc) (secO l data)) (hvp.base HB.out) (fun k hk => World.ownsRow.lt hvp k hk)); clear hm hvp)
    | (go_at_call 25; (with_reducible refine (HOP2.out _ _ HS1.out).mono ?_); rintro e w2 ⟨rfl, G2, h2⟩; simp only [List.cons_append, List.nil_append] at h2; have HS2 := Lib.hid h2; clear h2)
    | (go_at_call 26; go_loud ((have HC := Lib.hid (write_s [_, _] HS2.out HK.out (OwnB.byts (HS2.out.get [])) (by have := HSN.out; have := HSL.out; omega))); (with_reducible refine HC.out.mono ?_); clear HC; rintro e w3 ⟨rfl, G3, h3⟩; simp only [List.cons_append, List.nil_append] at h3; have HS3 := Lib.hid h3; clear h3))
    | (go_at_call 29; go_loud ((have HC := Lib.hid (finish_s [_, _] HS3.out HK.out)); (with_reducible refine HC.out.mono ?_); clear HC; rintro e w4 ⟨rfl, G4, h4⟩; simp only [List.cons_append, List.nil_append] at h4; have q4 : SBf W.heap.size w4 sb mb G S nilS := h4.get [_]; have k4 : w4.cell? ⟨sb, 4, none⟩ = some (.map (some mb)) := q4.blk.cellAt 4 rfl; obtain ⟨w5, hr, q5, hs5, hm5⟩ := HA.out w4 q4 h4.le; have HR := Lib.hid hr; have HS5 := Lib.hid (h4.turn [_] (o' := sesTh W.heap.size sb mb _ (S.put id mineP) nilS) q5 hs5 (hm5.mono (fun k _ e => .inr (.inl e)))); clear h4 q4 q5 hs5 hm5 hr))
    | ((with_reducible refine wpList_skipr ?_ (exec_iput (m := .tmp 72) (x := .tmp 73) (v := .tmp 75) ?_ ?_ ?_ ?_ HR.out) ?_); (iterate 5 exact rfl))
    | fail)
   go_ret2
   refine ⟨by unfold askV; rw [if_pos HE.out, HE.out, HIDE.out]; rfl, updQ G (id : Int) ⟨w4.heap.size, .slice none 0 0⟩, G4, ?_⟩
   unfold askS askT
   rw [if_pos HE.out, if_pos HE.out, HIDE.out]
   exact HS5.out.drop
 ·have HE : Hid (askE T l data = packE l data) := Lib.hid (by unfold askE; rw [if_pos hp])
  have t0 : (packE l data == 0) = false := by simpa using hp
  have t1 : (packE l data != 0) = true := by simpa using hp
  have HPN := Lib.hid hp
  clear hp
  unfold PackR at HP
  generalize hpe : packE l data = pe at *
  clear hpe
  go_enter Tryz.func11, Tryz.ntmps11
  go_wp2_with (first
   | (go_at_call 28; (with_reducible refine HP.out.mono ?_); rintro e w1 ⟨pa, pc, rfl, -, hm⟩; have HS1 := Lib.hid (HS.out.still hm); clear hm)
   | fail)
  go_ret2
  exact AskR.no HE.out HPN.out HS1.out
theorem zero_pt (w : World) : (zeroValue 81).run Tryz.prog w = .ok (.pointer none) w := by kernel_rfl
section
variable {B : Nat} {w : World} {sb mb : Nat} {G : Int → PM} {S : Ses} {ov : Value}
theorem SBf.look (q : SBf B w sb mb G S ov) {id : Nat} (hi : okId id) :
  (Instr.lookup 66 (.map (some mb)) (.int .u64 (id : Int)) false).run Tryz.prog w = .ok (if (id : Int) ∈ S.dom then .pointer (some ⟨(G id).pb, 0, none⟩) else .pointer none) w :=
 q.map.look Tryz.underlying34 (u64_wf hi) Tryz.underlying66 (zero_pt w)
theorem SBf.lookIn (q : SBf B w sb mb G S ov) {id : Nat} (hi : okId id) (hz : (id : Int) ∈ S.dom) :
  (Instr.lookup 66 (.map (some mb)) (.int .u64 (id : Int)) false).run Tryz.prog w = .ok (.pointer (some ⟨(G id).pb, 0, none⟩)) w := by
 rw [q.look hi, if_pos hz]
theorem updQ_self (f : Int → PM) (z : Int) : updQ f z (f z) = f := by
 funext y
 unfold updQ
 split
 ·rename_i h; rw [h]
 ·rfl
theorem SBf.pset (q : SBf B w sb mb G S ov) {z : Int} (hz : z ∈ S.dom) {i : Nat} {v : Value} {p' : Prt} (hc : (prtC (G z).bv (S.m z)).setIfInBounds i v = prtC (G z).bv p') (hb : p'.b = (S.m z).b) :
  SBf B (w.setCell ⟨(G z).pb, i, none⟩ v) sb mb G { S with m := updP S.m z p' } ov ∧ Mod (fun k => k = (G z).pb) w (w.setCell ⟨(G z).pb, i, none⟩ v) := by
 have hp := q.parts z hz
 have hM : Mod (fun k => k = (G z).pb) w (w.setCell ⟨(G z).pb, i, none⟩ v) := (Mod.refl (fun k => k = (G z).pb) _).setCell (p := ⟨(G z).pb, i, none⟩) (fun _ => rfl) _
 have h := q.part hz (w' := w.setCell ⟨(G z).pb, i, none⟩ v) (g' := G z) (p' := p') ⟨hp.at0, hc ▸ hp.blk.set i v, by rw [hb]; exact hp.own.kept hM (fun g hg e => hp.ne (e ▸ hg)), hp.ne⟩ rfl (fun k hk => .inl hk) (hM.mono (fun k _ e => .inl e))
 rw [updQ_self] at h
 exact ⟨h, hM⟩
theorem QS.upd {z : Int} {p' : Prt} : ∀ k, QS sb mb G { S with m := updP S.m z p' } k → QS sb mb G S k := fun _ h => h
end
theorem At.pset {W w : World} (l : List Th) {sb mb : Nat} {G : Int → PM} {S : Ses} {ov : Value} {m : List Th} (h : At W w (l ++ sesTh W.heap.size sb mb G S ov :: m)) {z : Int} (hz : z ∈ S.dom) {i : Nat} {v : Value} {p' : Prt} (hc : (prtC (G z).bv (S.m z)).setIfInBounds i v = prtC (G z).bv p') (hb : p'.b = (S.m z).b) :
  At W (w.setCell ⟨(G z).pb, i, none⟩ v) (l ++ sesTh W.heap.size sb mb G { S with m := updP S.m z p' } ov :: m) := by
 have h1 := SBf.pset (show SBf W.heap.size w sb mb G S ov from h.get l) hz hc hb
 exact h.turn l (o' := sesTh W.heap.size sb mb G { S with m := updP S.m z p' } ov) h1.1 (fun k hk => .inl hk) (h1.2.mono (fun k _ e => .inr (.inr ⟨z, hz, .inl e⟩)))
def ansE (T : Tb) (id : Nat) (l : List Fd) (data : List UInt8) : Int := if packE l data ≠ 0 then packE l data else wrE T id
def ansT (T : Tb) (id : Nat) (l : List Fd) (data : List UInt8) : Tb := if ansE T id l data = 0 then fnT (wrT T id (secO l data)) id else T
def repS (S : Ses) (z : Int) : Ses := { S with m := updP S.m z { S.m z with replied := true } }
def ansS (S : Ses) (T : Tb) (id : Nat) (l : List Fd) (data : List UInt8) : Ses := if ansE T id l data = 0 then repS S (id : Int) else S
def AnsR (W w' : World) (sb mb tb mt : Nat) (S : Ses) (T : Tb) (m : List Th) (id : Nat) (l : List Fd) (data : List UInt8) (e : Ending) : Prop := e = .returned (.int .i64 (ansE T id l data)) ∧ ∃ G' GT', At W w' (sesTh W.heap.size sb mb G' (ansS S T id l data) nilS :: tabTh W.heap.size tb mt GT' (ansT T id l data) :: m)
theorem AnsR.no {W w' : World} {sb mb tb mt : Nat} {S : Ses} {T : Tb} {m : List Th} {id : Nat} {l : List Fd} {data : List UInt8} {G : Int → PM} {GT : Int → SM} {z : Int} (hz : ansE T id l data = z) (h0 : z ≠ 0) (h : At W w' (sesTh W.heap.size sb mb G S nilS :: tabTh W.heap.size tb mt GT T :: m)) : AnsR W w' sb mb tb mt S T m id l data (.returned (.int .i64 z)) := by
 have h1 : ¬ ansE T id l data = 0 := by rw [hz]; exact h0
 refine ⟨by rw [hz], G, GT, ?_⟩
 unfold ansS ansT
 rw [if_neg h1, if_neg h1]
 exact h
set_option maxHeartbeats 4000000 in
set_option maxRecDepth 10000 in
theorem ans_s {W w : World} {sb mb tb mt : Nat} {G : Int → PM} {S : Ses} {GT : Int → SM} {T : Tb} {m : List Th} (h : At W w (sesTh W.heap.size sb mb G S nilS :: tabTh W.heap.size tb mt GT T :: m)) (hT : Tabs W) (hU : UTabs W) (hc : S.client = false) (ho : S.over = false)
  {id : Nat} (hi : okId id) (hd : (id : Int) ∈ S.dom) (ha : (S.m id).asked = true) (hr : (S.m id).replied = false)
  {v dv : Value} {l : List Fd} {data : List UInt8} (hv : FldV w v l) (hn : (l.length : Int) ≤ 100000) (hf : FdsOk l) (hb : Byts w dv data) (hdl : (data.length : Int) ≤ 100000) :
  Calls Tryz.prog 13 #[.pointer (some ⟨sb, 0, none⟩), .pointer (some ⟨tb, 0, none⟩), .int .u64 (id : Int), v, dv] w fun e w' => AnsR W w' sb mb tb mt S T m id l data e := by
 have q : SBf W.heap.size w sb mb G S nilS := h.get []
 have c0 : w.cell? ⟨sb, 0, none⟩ = some (.bool false) := hc ▸ q.blk.cellAt 0 rfl
 have c10 : w.cell? ⟨sb, 10, none⟩ = some (.bool false) := ho ▸ q.blk.cellAt 10 rfl
 have c4 : w.cell? ⟨sb, 4, none⟩ = some (.map (some mb)) := q.blk.cellAt 4 rfl
 have hk := q.lookIn hi hd
 have p5 : w.cell? ⟨(G id).pb, 5, none⟩ = some (.bool true) := ha ▸ (q.parts _ hd).blk.cellAt 5 rfl
 have p7 : w.cell? ⟨(G id).pb, 7, none⟩ = some (.bool false) := hr ▸ (q.parts _ hd).blk.cellAt 7 rfl
 have HP := Lib.hid (packed_any (h.tabs hT) (h.utabs hU) hv hn hf hb hdl)
 have HS := Lib.hid h
 have HB := Lib.hid h.le
 have HK := Lib.hid hi
 have HD := Lib.hid hd
 clear q h hT hU hc ho ha hr hv hn hf hb hdl hi hd
 by_cases hp : packE l data = 0
 ·have hpo : packO l data = secO l data := by unfold packO; rw [if_pos hp]
  unfold PackR at HP
  rw [hpo, hp] at HP
  obtain ⟨sn, hsn⟩ : ∃ n : Nat, (secO l data).length = n := ⟨_, rfl⟩
  have HSN := Lib.hid hsn
  have HSL := Lib.hid (secO_len l data)
  have HWR := Lib.hid (fun w1 a c (h1 : At W w1 (rowTh W.heap.size (.slice a sn c) (secO l data) :: sesTh W.heap.size sb mb G S nilS :: tabTh W.heap.size tb mt GT T :: m)) => write_s [_, _] h1 HK.out (OwnB.byts (h1.get [])) (by have := HSN.out; have := HSL.out; omega))
  clear hsn hpo
  by_cases hw : wrE T id = 0
  ·have HE : Hid (ansE T id l data = 0) := Lib.hid (by unfold ansE; rw [if_neg (by simpa using hp), hw])
   rw [hw] at HWR
   clear hp hw
   generalize hpb : (G (id : Int)).pb = pb at *
   have HPB := Lib.hid hpb
   clear hpb
   go_enter Tryz.func13, Tryz.ntmps13
   go_wp2_with (first
    | (go_at_call 28; (with_reducible refine HP.out.mono ?_); rintro e w1 ⟨pa, pc, rfl, hvp, hm⟩; rw [HSN.out] at hvp; rw [HSN.out]; have HS1 := Lib.hid (HS.out.push hm (rowTh W.heap.size (.slice pa sn pc) (secO l data)) (hvp.base HB.out) (fun k hk => World.ownsRow.lt hvp k hk)); clear hm hvp)
    | (go_at_call 26; (with_reducible refine (HWR.out _ _ _ HS1.out).mono ?_); rintro e w3 ⟨rfl, G3, h3⟩; simp only [List.cons_append, List.nil_append] at h3; have HS3 := Lib.hid h3; clear h3)
    | (go_at_call 29; (have HC := Lib.hid (finish_s [_, _] HS3.out HK.out)); (with_reducible refine HC.out.mono ?_); clear HC; rintro e w4 ⟨rfl, G4, h4⟩; simp only [List.cons_append, List.nil_append] at h4; have HS5 := Lib.hid (At.pset [_] h4 HD.out (i := 7) (v := .bool true) (p' := { S.m id with replied := true }) rfl rfl); rw [HPB.out] at HS5; have q4 := (show SBf W.heap.size w4 sb mb G S nilS from h4.get [_]).parts _ HD.out; rw [← HPB.out]; have k7 : w4.cell? ⟨(G id).pb, 7, none⟩ = some (.bool (S.m id).replied) := q4.blk.cellAt 7 rfl; have f7 : w4.frozen? ⟨(G id).pb, 7, none⟩ = false := q4.blk.free 7; rw [HPB.out] at k7 f7; rw [HPB.out]; clear h4 q4)
    | fail)
   go_ret
   refine ⟨by rw [HE.out]; rfl, G, G4, ?_⟩
   unfold ansS ansT
   rw [if_pos HE.out, if_pos HE.out]
   exact HS5.out.drop
  ·have HE : Hid (ansE T id l data = wrE T id) := Lib.hid (by unfold ansE; rw [if_neg (by simpa using hp)])
   have hwt : wrT T id (secO l data) = T := by unfold wrT; rw [if_neg hw]
   rw [hwt] at HWR
   have t0 : (wrE T id == 0) = false := by simpa using hw
   have t1 : (wrE T id != 0) = true := by simpa using hw
   have HPN := Lib.hid hw
   clear hp hw hwt
   generalize wrE T id = we at *
   go_enter Tryz.func13, Tryz.ntmps13
   go_wp2_with (first
    | (go_at_call 28; (with_reducible refine HP.out.mono ?_); rintro e w1 ⟨pa, pc, rfl, hvp, hm⟩; rw [HSN.out] at hvp; rw [HSN.out]; have HS1 := Lib.hid (HS.out.push hm (rowTh W.heap.size (.slice pa sn pc) (secO l data)) (hvp.base HB.out) (fun k hk => World.ownsRow.lt hvp k hk)); clear hm hvp)
    | (go_at_call 26; (with_reducible refine (HWR.out _ _ _ HS1.out).mono ?_); rintro e w3 ⟨rfl, G3, h3⟩; simp only [List.cons_append, List.nil_append] at h3; have HS3 := Lib.hid h3; clear h3)
    | fail)
   go_ret
   exact AnsR.no HE.out HPN.out HS3.out.drop
 ·have HE : Hid (ansE T id l data = packE l data) := Lib.hid (by unfold ansE; rw [if_pos hp])
  have t0 : (packE l data == 0) = false := by simpa using hp
  have t1 : (packE l data != 0) = true := by simpa using hp
  have HPN := Lib.hid hp
  clear hp
  unfold PackR at HP
  generalize hpe : packE l data = pe at *
  clear hpe
  go_enter Tryz.func13, Tryz.ntmps13
  go_wp2_with (first
   | (go_at_call 28; (with_reducible refine HP.out.mono ?_); rintro e w1 ⟨pa, pc, rfl, -, hm⟩; have HS1 := Lib.hid (HS.out.still hm); clear hm)
   | fail)
  go_ret
  exact AnsR.no HE.out HPN.out HS1.out
theorem SBf.topX {B : Nat} {w w' : World} {sb mb : Nat} {G : Int → PM} {S S' : Ses} {ov ov' : Value} {Y : Nat → Prop} (q : SBf B w sb mb G S ov) (hb : Blk w' sb (sesC mb S' ov') 68) (hM : Mod Y w w') (hY : ∀ k, QS sb mb G S k → Y k → k = sb) (hd : S'.dom = S.dom) (hm : S'.m = S.m) (hn : nat64 S'.limit ∧ nat64 S'.code ∧ S'.own ≤ 1000 ∧ S'.wrote ≤ 1000) : SBf B w' sb mb G S' ov' :=
 ⟨q.at0, q.atm, hb, hd ▸ q.map.kept hM (fun e => q.mt (hY _ (.inr (.inl rfl)) e)), fun z hz => by
  rw [hd] at hz
  rw [hm]
  exact (q.parts z hz).kept hM (fun k hk e => (q.tops z hz k hk).1 (hY k (.inr (.inr ⟨z, hz, hk⟩)) e)), fun z hz z' hz' => q.apart z (hd ▸ hz) z' (hd ▸ hz'), fun z hz => q.tops z (hd ▸ hz), q.mt, fun z hz => q.ids z (hd ▸ hz), hn⟩
theorem pair2 {a b : Th} (h : Apart a b) : [a, b].Pairwise Apart := by simp [h]
def TellS (W w' : World) (sb mb : Nat) (G : Int → PM) (S : Ses) (L : List Ev) (m : List Th) (e : Ending) : Prop := ∃ X' a c, e = .returned (.tuple #[]) ∧ At W w' (sesTh W.heap.size sb mb G S (.slice a L.length c) :: evsTh W.heap.size X' (.slice a L.length c) L :: m)
theorem tell_s {W w : World} {sb mb : Nat} {G : Int → PM} {S : Ses} {ov : Value} {X : Nat → Prop} {l : List Ev} {f : Ev} {vf vb : Value} {m : List Th} (h : At W w (sesTh W.heap.size sb mb G S ov :: evsTh W.heap.size X ov l :: fldTh W.heap.size vf f.f :: rowTh W.heap.size vb f.b :: m)) (hl : l.length ≤ 1000) :
  Calls Tryz.prog 36 #[.pointer (some ⟨sb, 0, none⟩), .agg (evC f vf vb)] w fun e w' => TellS W w' sb mb G S (l ++ [f]) m e := by
 have q : SBf W.heap.size w sb mb G S ov := h.get []
 have ho : OwnEI w W.heap.size X ov l := h.get [_]
 have hF : OwnF w W.heap.size vf f.f := h.get [_, _]
 have hR : OwnB w W.heap.size vb f.b := h.get [_, _, _]
 refine (tell_any q.blk ho hl (Y := fun k => vf.ownBlock = some k ∨ vb.ownBlock = some k) ⟨vf, vb, rfl, hF, hR, fun g hg => .inl hg, fun g hg => .inr hg⟩ h.le).mono ?_
 rintro e w' ⟨a, c, rfl, hb, ho', hM⟩
 obtain ⟨hs, -, -⟩ := Side.app (l := [sesTh W.heap.size sb mb G S ov, evsTh W.heap.size X ov l, fldTh W.heap.size vf f.f, rowTh W.heap.size vb f.b]).1 h.1
 obtain ⟨-, h1, -⟩ := hs
 have hx : ∀ k, QS sb mb G S k → ¬ X k := h1 (evsTh W.heap.size X ov l) (by simp)
 have hf : ∀ k, QS sb mb G S k → ¬ vf.ownBlock = some k := h1 (fldTh W.heap.size vf f.f) (by simp)
 have hr : ∀ k, QS sb mb G S k → ¬ vb.ownBlock = some k := h1 (rowTh W.heap.size vb f.b) (by simp)
 have hlt := q.lt
 have e1 : (l ++ [f]).length = l.length + 1 := by simp
 refine ⟨(fun k => (X k ∨ (vf.ownBlock = some k ∨ vb.ownBlock = some k) ∨ w.heap.size ≤ k) ∧ k < w'.heap.size), a, c, rfl, ?_⟩
 rw [e1]
 refine At.change (l1 := [sesTh W.heap.size sb mb G S ov, evsTh W.heap.size X ov l, fldTh W.heap.size vf f.f, rowTh W.heap.size vb f.b]) [sesTh W.heap.size sb mb G S (.slice a (l.length + 1) c), evsTh W.heap.size (fun k => (X k ∨ (vf.ownBlock = some k ∨ vb.ownBlock = some k) ∨ w.heap.size ≤ k) ∧ k < w'.heap.size) (.slice a (l.length + 1) c) (l ++ [f])] h (hM.mono (fun k _ e => ?_)) ?_ (pair2 (fun k hk hk2 => ?_))
 ·rcases e with e | e
  ·exact ⟨_, List.mem_cons_self, .inl e⟩
  ·exact ⟨evsTh W.heap.size X ov l, by simp, ho.2 k e⟩
 ·intro o hm
  rcases List.mem_cons.1 hm with rfl | hm
  ·exact ⟨q.topX hb hM (fun k hk e => e.resolve_right (fun e2 => hx k hk (ho.2 k e2))) rfl rfl q.num, fun k hk => .inl ⟨_, List.mem_cons_self, hk⟩⟩
  ·have := List.mem_singleton.1 hm
   subst this
   refine ⟨ho', fun k hk => ?_⟩
   rcases hk.1 with e | (e | e) | e
   ·exact .inl ⟨evsTh W.heap.size X ov l, by simp, e⟩
   ·exact .inl ⟨fldTh W.heap.size vf f.f, by simp, e⟩
   ·exact .inl ⟨rowTh W.heap.size vb f.b, by simp, e⟩
   ·exact .inr ⟨e, hk.2⟩
 ·rcases hk2.1 with e | (e | e) | e
  ·exact hx k hk e
  ·exact hf k hk e
  ·exact hr k hk e
  ·have := (hlt k hk).2
   omega
theorem At.none2 {W w : World} {a b : Th} {m : List Th} (h : At W w (a :: b :: m)) : At W w (a :: b :: fldTh W.heap.size (.slice none 0 0) [] :: rowTh W.heap.size (.slice none 0 0) [] :: m) := by
 have n1 : ∀ k, ¬ (fldTh W.heap.size (.slice none 0 0) []).R k := fun k hk => by cases hk
 have n2 : ∀ k, ¬ (rowTh W.heap.size (.slice none 0 0) []).R k := fun k hk => by cases hk
 obtain ⟨⟨h1, h2, h3, h4, h5⟩, h6⟩ := h
 refine ⟨⟨h1, fun p hp => ?_, h3, fun p hp => ?_, ⟨OwnF.nil _ _, fun k hk => (n1 k hk).elim⟩, fun p _ k hk => (n1 k hk).elim, ⟨OwnB.nilI _ _, fun k hk => (n2 k hk).elim⟩, fun p _ k hk => (n2 k hk).elim, h5⟩, h6⟩
 ·simp only [List.mem_cons] at hp
  rcases hp with rfl | rfl | rfl | hp
  ·exact h2 _ (by simp)
  ·exact fun k _ hk => n1 k hk
  ·exact fun k _ hk => n2 k hk
  ·exact h2 _ (List.mem_cons_of_mem _ hp)
 ·simp only [List.mem_cons] at hp
  rcases hp with rfl | rfl | hp
  ·exact fun k _ hk => n1 k hk
  ·exact fun k _ hk => n2 k hk
  ·exact h4 _ hp
def settledS (S : Ses) : Ses := { S with settled := true }
def heardS (S : Ses) (id : Nat) : Ses := { S with limit := id, limited := true }
def leaveE (id : Nat) : Ev := ⟨4, id, [], [], 0⟩
def frameS (S : Ses) (f : HF) : Option (Ses × List Ev) :=
 if S.settled = false then (if f.k = 4 then some (settledS S, []) else none)
 else if f.k = 7 ∧ S.client = true ∧ f.id % 4 = 0 ∧ f.id ≤ topN ∧ ¬ (S.limited = true ∧ S.limit < f.id) then some (heardS S f.id, [leaveE f.id]) else none
def FrameR (W w' : World) (sb mb : Nat) (G : Int → PM) (S : Ses) (L : List Ev) (m : List Th) (e : Ending) : Prop := ∃ X' ov', e = .returned (.tuple #[]) ∧ At W w' (sesTh W.heap.size sb mb G S ov' :: evsTh W.heap.size X' ov' L :: m)
theorem ses_top {W w : World} (l : List Th) {sb mb : Nat} {G : Int → PM} {S S' : Ses} {ov : Value} {m : List Th} (h : At W w (l ++ sesTh W.heap.size sb mb G S ov :: m)) {w' : World} (hM : Mod (fun k => k = sb) w w') (hb : Blk w' sb (sesC mb S' ov) 68) (hd : S'.dom = S.dom) (hm : S'.m = S.m) (hn : nat64 S'.limit ∧ nat64 S'.code ∧ S'.own ≤ 1000 ∧ S'.wrote ≤ 1000) : At W w' (l ++ sesTh W.heap.size sb mb G S' ov :: m) := by
 have q : SBf W.heap.size w sb mb G S ov := h.get l
 refine h.turn l (o' := sesTh W.heap.size sb mb G S' ov) (q.top hb hM hd hm hn) (fun k hk => .inl ?_) (hM.mono (fun k _ e => .inl e))
 rcases hk with e | e | ⟨z, hz, e⟩
 ·exact .inl e
 ·exact .inr (.inl e)
 ·exact .inr (.inr ⟨z, hd ▸ hz, e⟩)
set_option maxHeartbeats 2000000 in
set_option maxRecDepth 10000 in
theorem frame_set {W w : World} {sb mb : Nat} {G : Int → PM} {S : Ses} {ov : Value} {m : List Th} (h : At W w (sesTh W.heap.size sb mb G S ov :: m)) (hs : S.settled = false) {z y : Int} {vs vd : Value} (hz : z = 4) :
  Calls Tryz.prog 118 #[.pointer (some ⟨sb, 0, none⟩), .agg #[.int .i64 z, .int .u64 y, vs, vd], .bool false] w fun e w' => e = .returned (.tuple #[]) ∧ At W w' (sesTh W.heap.size sb mb G (settledS S) ov :: m) := by
 subst hz
 have hM0 : Mod (fun _ => False) w (w.alloc (.cells #[.int .i64 4, .int .u64 y, vs, vd] 77)) := (Mod.refl _ _).alloc _
 have h0 := h.still hM0
 have q : SBf W.heap.size _ sb mb G S ov := h0.get []
 have c5 : (w.alloc (.cells #[.int .i64 4, .int .u64 y, vs, vd] 77)).cell? ⟨sb, 5, none⟩ = some (.bool false) := hs ▸ q.blk.cellAt 5 rfl
 have f5 := q.blk.free 5
 have hb := Blk.new w #[.int .i64 4, .int .u64 y, vs, vd] 77
 have b0 : (w.alloc (.cells #[.int .i64 4, .int .u64 y, vs, vd] 77)).cell? ⟨w.heap.size, 0, none⟩ = some (.int .i64 4) := hb.cellAt 0 rfl
 have HS := Lib.hid (ses_top [] h0 (S' := settledS S) ((Mod.refl (fun k => k = sb) _).setCell (p := ⟨sb, 5, none⟩) (fun _ => rfl) (.bool true)) (q.blk.set 5 (.bool true)) rfl rfl q.num)
 clear q h h0 hs hb hM0
 go_enter Tryz.func118, Tryz.ntmps118
 go_wp2_with fail
 go_end0
 exact ⟨rfl, HS.out⟩
set_option maxHeartbeats 4000000 in
set_option maxRecDepth 10000 in
theorem frame_go {W w : World} {sb mb : Nat} {G : Int → PM} {S : Ses} {ov : Value} {X : Nat → Prop} {L : List Ev} {m : List Th} (h : At W w (sesTh W.heap.size sb mb G S ov :: evsTh W.heap.size X ov L :: m)) (hl : L.length ≤ 1000) (hs : S.settled = true) (hc : S.client = true) {z y : Int} {id : Nat} (hz : z = 7) (hy : y = (id : Int)) (h4 : id % 4 = 0) (hi : id ≤ topN) (hlim : ¬ (S.limited = true ∧ S.limit < id)) {vs vd : Value} :
  Calls Tryz.prog 118 #[.pointer (some ⟨sb, 0, none⟩), .agg #[.int .i64 z, .int .u64 y, vs, vd], .bool false] w fun e w' => TellS W w' sb mb G (heardS S id) (L ++ [leaveE id]) m e := by
 subst hz hy
 have hM0 : Mod (fun _ => False) w (w.alloc (.cells #[.int .i64 7, .int .u64 (id : Int), vs, vd] 77)) := (Mod.refl _ _).alloc _
 have hb := Blk.new w #[.int .i64 7, .int .u64 (id : Int), vs, vd] 77
 have h0 := h.still hM0
 have q : SBf W.heap.size (w.alloc (.cells #[.int .i64 7, .int .u64 (id : Int), vs, vd] 77)) sb mb G S ov := h0.get []
 have c5 : (w.alloc (.cells #[.int .i64 7, .int .u64 (id : Int), vs, vd] 77)).cell? ⟨sb, 5, none⟩ = some (.bool true) := hs ▸ q.blk.cellAt 5 rfl
 have c0 : (w.alloc (.cells #[.int .i64 7, .int .u64 (id : Int), vs, vd] 77)).cell? ⟨sb, 0, none⟩ = some (.bool true) := hc ▸ q.blk.cellAt 0 rfl
 have c7 : (w.alloc (.cells #[.int .i64 7, .int .u64 (id : Int), vs, vd] 77)).cell? ⟨sb, 7, none⟩ = some (.int .u64 (S.limit : Int)) := q.blk.cellAt 7 rfl
 have c8 : (w.alloc (.cells #[.int .i64 7, .int .u64 (id : Int), vs, vd] 77)).cell? ⟨sb, 8, none⟩ = some (.bool S.limited) := q.blk.cellAt 8 rfl
 have f7 := q.blk.free 7
 have f8 := q.blk.free 8
 have b0 : (w.alloc (.cells #[.int .i64 7, .int .u64 (id : Int), vs, vd] 77)).cell? ⟨w.heap.size, 0, none⟩ = some (.int .i64 7) := hb.cellAt 0 rfl
 have b1 : (w.alloc (.cells #[.int .i64 7, .int .u64 (id : Int), vs, vd] 77)).cell? ⟨w.heap.size, 1, none⟩ = some (.int .u64 (id : Int)) := hb.cellAt 1 rfl
 have hne : ¬ w.heap.size = sb := fun e => by have := (show SBf W.heap.size w sb mb G S ov from h.get []).blk.lt; omega
 have i0 : (0 : Int) ≤ (id : Int) := by omega
 have t4 : (id : Int).tmod 4 = 0 := by rw [Int.tmod_eq_emod_of_nonneg i0]; omega
 have HS0 := Lib.hid h0
 have hgo : ∀ w1, SBf W.heap.size w1 sb mb G S ov → nat64 (heardS S id).limit ∧ nat64 (heardS S id).code ∧ (heardS S id).own ≤ 1000 ∧ (heardS S id).wrote ≤ 1000 := fun w1 q1 => ⟨(by show (id : Int) ≤ 4611686018427387904; have e : topN = 4611686018427387903 := rfl; omega), q1.num.2⟩
 have HGO := Lib.hid (fun w1 (h1 : At W w1 (sesTh W.heap.size sb mb G S ov :: evsTh W.heap.size X ov L :: m)) => ses_top [] h1 (S' := heardS S id) (((Mod.refl (fun k => k = sb) w1).setCell (p := ⟨sb, 7, none⟩) (fun _ => rfl) (.int .u64 (id : Int))).setCell (p := ⟨sb, 8, none⟩) (fun _ => rfl) (.bool true)) (((show SBf W.heap.size w1 sb mb G S ov from h1.get []).blk.set 7 (.int .u64 (id : Int))).set 8 (.bool true)) rfl rfl (hgo w1 (h1.get [])))
 have HL := Lib.hid hl
 have hcase : S.limited = false ∨ (S.limited = true ∧ ¬ S.limit < id) := by
  cases hb : S.limited
  ·exact .inl rfl
  ·exact .inr ⟨rfl, fun e => hlim ⟨hb, e⟩⟩
 clear q h h0 hs hc hb hM0 hlim hi h4 hl hgo
 rcases hcase with hb | ⟨hb, t6⟩ <;> (
  rw [hb] at c8
  clear hb
  go_enter Tryz.func118, Tryz.ntmps118
  go_upto_region 1 with fail
  generalize hW : w.alloc (.cells #[.int .i64 7, .int .u64 (id : Int), vs, vd] 77) = W0 at *
  have HW := Lib.hid hW
  clear hW
  go_wp2_with fail
  go_quiet (fail)
  all_goals (go_wp2_with (first
   | (go_at_call 36; (have HC : Hid (Calls Tryz.prog 36 #[.pointer (some ⟨sb, 0, none⟩), .agg #[.int .i64 4, .int .u64 (id : Int), .slice none 0 0, .slice none 0 0, .int .u64 0]] (((W0.drewN nq).setCell ⟨sb, 7, none⟩ (.int .u64 (id : Int))).setCell ⟨sb, 8, none⟩ (.bool true)) fun e w' => TellS W w' sb mb G (heardS S id) (L ++ [leaveE id]) m e) := Lib.hid (tell_s (f := leaveE id) (HGO.out _ (HS0.out.still ((Mod.refl _ _).drewN nq))).none2 HL.out)); (with_reducible refine HC.out.mono ?_); clear HC; rintro e w9 ⟨X9, a9, c9, rfl, h9⟩; have HS9 := Lib.hid h9; clear h9)
   | fail))
  go_end0
  exact ⟨X9, a9, c9, rfl, HS9.out⟩)
end Go.Proofs.YtahgidkpjmecdaaGreatDoor
