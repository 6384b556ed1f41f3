/- Parts of the proof: StK StL StM. -/
import Derived.Test.YtolgeghdkoodnaaGreatDoorQ12
import Derived.Test.YtolgeghdkoodnaaGreatDoorQ17
import Derived.Deep.QuietTactic
import Derived.BigQuiet
import Derived.Lib.MinMax
set_option maxRecDepth 100000
namespace Go.Proofs.YtolgeghdkoodnaaGreatDoor
open Go.RowKit Go.Maps
theorem sbitq (b : Bool) (w : World) : Calls Tryz.prog 28 #[.bool b] w fun e w' => e = .returned (.int .u64 (if b then 1 else 0)) ∧ w' = w :=
 (sbit_any b w).mono fun _ _ ⟨h1, h2⟩ => ⟨h2, h1.symm⟩
def opN (T : Tb) (k : Nat) : Nat := if k = 0 then T.op0 else if k = 1 then T.op1 else if k = 2 then T.op2 else T.op3
def setOp (T : Tb) (k v : Nat) : Tb := if k = 0 then { T with op0 := v } else if k = 1 then { T with op1 := v } else if k = 2 then { T with op2 := v } else { T with op3 := v }
def limN (T : Tb) (b : Bool) : Nat := if b then T.lim1 else T.lim0
def kindN (c b : Bool) : Nat := (if b then 2 else 0) + (if c then 0 else 1)
def openId (T : Tb) (b : Bool) : Nat := 4 * opN T (kindN T.client b) + kindN T.client b
def openOk (T : Tb) (b : Bool) : Bool := decide (opN T (kindN T.client b) < limN T b)
def openT (T : Tb) (b : Bool) : Tb := if openOk T b then mkT (setOp T (kindN T.client b) (opN T (kindN T.client b) + 1)) (openId T b) else T
def opE (T : Tb) (b : Bool) : Int := if openOk T b then 0 else 5
def openV (T : Tb) (b : Bool) : Nat := if openOk T b then openId T b else 0
def TOpen (B : Nat) (w w' : World) (tb mb : Nat) (G : Int → SM) (T : Tb) (b : Bool) (e : Ending) : Prop := e = .returned (.tuple #[.int .u64 (openV T b : Int), .int .i64 (opE T b)]) ∧ TC B w w' tb mb G T (openT T b)
theorem topen_nil (b : Bool) (w : World) : Calls Tryz.prog 11 #[.pointer none, .bool b] w fun e w' => w = w' ∧ e = .returned (.tuple #[.int .u64 0, .int .i64 1]) := by
 go_enter Tryz.func11, Tryz.ntmps11
 go_wp2_with fail
 go_ret2
 exact ⟨rfl, rfl⟩
theorem TT.ctx {B : Nat} {w w1 w2 : World} {tb mb : Nat} {G G1 : Int → SM} {T T1 T2 : Tb} (h1 : TT B w w1 tb mb G G1 T T1) (h2 : ∃ G2, TT B w1 w2 tb mb G1 G2 T1 T2) : TC B w w2 tb mb G T T2 := by
 obtain ⟨G2, h⟩ := h2
 exact (h1.trans h).tc
theorem open_00 {B : Nat} {w : World} {tb mb : Nat} {G : Int → SM} {T : Tb} (q : TBuf B w tb mb G T) (hc : T.client = false) (hz : (openId T false : Int) ∉ T.dom) (hl : T.dom.length ≤ 1000) :
  Calls Tryz.prog 11 #[.pointer (some ⟨tb, 0, none⟩), .bool false] w fun e w' => TOpen B w w' tb mb G T false e := by
 have hk : kindN T.client false = 1 := by rw [hc]; rfl
 have HID : Hid (openId T false = 4 * T.op1 + 1) := Lib.hid (by unfold openId; rw [hk]; rfl)
 have HOK : Hid (openOk T false = decide (T.op1 < T.lim0)) := Lib.hid (by unfold openOk; rw [hk]; rfl)
 have HTT : Hid (setOp T (kindN T.client false) (opN T (kindN T.client false) + 1) = { T with op1 := T.op1 + 1 }) := Lib.hid (by rw [hk]; rfl)
 have hn := q.num
 have HNUM := Lib.hid q.num
 have HC := Lib.hid hc
 have HQ := Lib.hid q
 have HZ := Lib.hid (And.intro hz hl)
 have HM0 : Hid (Mod (fun _ => False) w w) := Lib.hid (Mod.refl _ _)
 obtain ⟨n, hnn⟩ : ∃ n : Int, (T.op1 : Int) = n := ⟨_, rfl⟩
 obtain ⟨l, hll⟩ : ∃ l : Int, (T.lim0 : Int) = l := ⟨_, rfl⟩
 have HNN := Lib.hid hnn
 have HLL := Lib.hid hll
 have u1 : IntKind.u64.wrap (n + 1) = n + 1 := IntWalk.u64_in _ (by omega)
 have u4 : IntKind.u64.wrap (4 * n) = 4 * n := IntWalk.u64_in _ (by omega)
 have u5 : IntKind.u64.wrap (4 * n + 1) = 4 * n + 1 := IntWalk.u64_in _ (by omega)
 have hdec : decide (l ≤ n) = !decide (T.op1 < T.lim0) := by
  by_cases h : T.op1 < T.lim0
  ·rw [decide_eq_true h, decide_eq_false (by omega)]; rfl
  ·rw [decide_eq_false h, decide_eq_true (by omega)]; rfl
 have c0 : w.cell? ⟨tb, 0, none⟩ = some (.bool false) := by
  have := HQ.out.blk.cellAt 0 (v := .bool T.client) rfl
  rw [HC.out] at this
  exact this
 have co : w.cell? ⟨tb, 24, none⟩ = some (.int .u64 n) := by rw [← HNN.out]; exact HQ.out.cell 2 rfl
 have cl : w.cell? ⟨tb, 27, none⟩ = some (.int .u64 l) := by rw [← HLL.out]; exact HQ.out.cell 5 rfl
 have fo : w.frozen? ⟨tb, 24, none⟩ = false := HQ.out.blk.free 24
 clear q hn hnn hll hz hl hk hc
 cases hlt : decide (T.op1 < T.lim0) with
 | false =>
  rw [hlt] at hdec HOK
  have ht : decide (l ≤ n) = true := hdec
  clear hdec hlt
  go_enter Tryz.func11, Tryz.ntmps11
  go_wp2_with fail
  go_quiet (first | (go_at_call 28; refine Calls.quiet_of_same (sbitq _ _)))
  have HM1 : Hid (Mod (fun _ => False) w (w.drewN nq)) := Lib.hid (HM0.out.drewN nq)
  clear c0 co cl fo
  generalize w.drewN nq = W1 at *
  have HQ1 := Lib.hid (HQ.out.still HM1.out)
  have c0 : W1.cell? ⟨tb, 0, none⟩ = some (.bool false) := by
   have := HQ1.out.blk.cellAt 0 (v := .bool T.client) rfl
   rw [HC.out] at this
   exact this
  have co : W1.cell? ⟨tb, 24, none⟩ = some (.int .u64 n) := by rw [← HNN.out]; exact HQ1.out.cell 2 rfl
  have cl : W1.cell? ⟨tb, 27, none⟩ = some (.int .u64 l) := by rw [← HLL.out]; exact HQ1.out.cell 5 rfl
  have fo : W1.frozen? ⟨tb, 24, none⟩ = false := HQ1.out.blk.free 24
  go_wp2_with fail
  go_quiet (first | (go_at_call 28; refine Calls.quiet_of_same (sbitq _ _)))
  have HM2 : Hid (Mod (fun _ => False) w (W1.drewN nq)) := Lib.hid (HM1.out.drewN nq)
  clear c0 co cl fo
  generalize W1.drewN nq = W2 at *
  have HQ2 := Lib.hid (HQ.out.still HM2.out)
  have c0 : W2.cell? ⟨tb, 0, none⟩ = some (.bool false) := by
   have := HQ2.out.blk.cellAt 0 (v := .bool T.client) rfl
   rw [HC.out] at this
   exact this
  have co : W2.cell? ⟨tb, 24, none⟩ = some (.int .u64 n) := by rw [← HNN.out]; exact HQ2.out.cell 2 rfl
  have cl : W2.cell? ⟨tb, 27, none⟩ = some (.int .u64 l) := by rw [← HLL.out]; exact HQ2.out.cell 5 rfl
  have fo : W2.frozen? ⟨tb, 24, none⟩ = false := HQ2.out.blk.free 24
  go_wp2_with fail
  go_ret2
  unfold TOpen openV opE openT
  rw [HOK.out, if_neg (by decide), if_neg (by decide), if_neg (by decide)]
  exact ⟨rfl, HQ.out.tc HM2.out⟩
 | true =>
  rw [hlt] at hdec HOK
  have HLT := Lib.hid (of_decide_eq_true hlt)
  have ht : decide (l ≤ n) = false := hdec
  clear hdec hlt
  go_enter Tryz.func11, Tryz.ntmps11
  go_wp2_with fail
  go_quiet (first | (go_at_call 28; refine Calls.quiet_of_same (sbitq _ _)))
  have HM1 : Hid (Mod (fun _ => False) w (w.drewN nq)) := Lib.hid (HM0.out.drewN nq)
  clear c0 co cl fo
  generalize w.drewN nq = W1 at *
  have HQ1 := Lib.hid (HQ.out.still HM1.out)
  have c0 : W1.cell? ⟨tb, 0, none⟩ = some (.bool false) := by
   have := HQ1.out.blk.cellAt 0 (v := .bool T.client) rfl
   rw [HC.out] at this
   exact this
  have co : W1.cell? ⟨tb, 24, none⟩ = some (.int .u64 n) := by rw [← HNN.out]; exact HQ1.out.cell 2 rfl
  have cl : W1.cell? ⟨tb, 27, none⟩ = some (.int .u64 l) := by rw [← HLL.out]; exact HQ1.out.cell 5 rfl
  have fo : W1.frozen? ⟨tb, 24, none⟩ = false := HQ1.out.blk.free 24
  go_wp2_with fail
  go_quiet (first | (go_at_call 28; refine Calls.quiet_of_same (sbitq _ _)))
  have HM2 : Hid (Mod (fun _ => False) w (W1.drewN nq)) := Lib.hid (HM1.out.drewN nq)
  clear c0 co cl fo
  generalize W1.drewN nq = W2 at *
  have HQ2 := Lib.hid (HQ.out.still HM2.out)
  have c0 : W2.cell? ⟨tb, 0, none⟩ = some (.bool false) := by
   have := HQ2.out.blk.cellAt 0 (v := .bool T.client) rfl
   rw [HC.out] at this
   exact this
  have co : W2.cell? ⟨tb, 24, none⟩ = some (.int .u64 n) := by rw [← HNN.out]; exact HQ2.out.cell 2 rfl
  have cl : W2.cell? ⟨tb, 27, none⟩ = some (.int .u64 l) := by rw [← HLL.out]; exact HQ2.out.cell 5 rfl
  have fo : W2.frozen? ⟨tb, 24, none⟩ = false := HQ2.out.blk.free 24
  go_wp2_with fail
  go_region
  have e1 : n + 1 = ((T.op1 + 1 : Nat) : Int) := by rw [← HNN.out]; push_cast; rfl
  have e2 : 4 * n + 1 = (openId T false : Int) := by rw [HID.out, ← HNN.out]; push_cast; rfl
  have E2 := Lib.hid e2
  have HT3 : Hid (TT B w (W2.setCell ⟨tb, 24, none⟩ (.int .u64 (n + 1))).drew tb mb G G T { T with op1 := T.op1 + 1 }) := Lib.hid (by
   rw [e1]
   have h3 := HQ2.out.setTT { T with op1 := T.op1 + 1 } 2 (.int .u64 ((T.op1 + 1 : Nat) : Int)) rfl rfl rfl rfl rfl (by
    have hn := HNUM.out
    have h1 := HLT.out
    refine ⟨hn.1, hn.2.1, hn.2.2.1, hn.2.2.2.1, ?_, ?_, ?_, ?_, hn.2.2.2.2.2.2.2.2⟩ <;> dsimp only <;> omega)
   have h23 := (HQ.out.stay HM2.out).trans h3
   exact h23.trans (h23.1.stay (Mod.refl _ _).drew))
  have HMK : Hid (Calls Tryz.prog 29 #[.pointer (some ⟨tb, 0, none⟩), .int .u64 (4 * n + 1)] (W2.setCell ⟨tb, 24, none⟩ (.int .u64 (n + 1))).drew fun e w' => TMk B (W2.setCell ⟨tb, 24, none⟩ (.int .u64 (n + 1))).drew w' tb mb G { T with op1 := T.op1 + 1 } (mkT { T with op1 := T.op1 + 1 } (openId T false)) (openId T false) e) := Lib.hid (by
   rw [e2]
   exact make_any HT3.out.1 (by rw [HID.out]; have := HNUM.out; omega) HZ.out.1 HZ.out.2)
  clear e1 e2
  go_wp2_with (first
   | (go_at_call 29; (with_reducible refine HMK.out.mono ?_); rintro e w5 ⟨G5, rfl, hT⟩; have H5 := Lib.hid hT; clear hT)
   | fail)
  go_ret2
  unfold TOpen openV opE openT
  rw [HOK.out, if_pos rfl, if_pos rfl, if_pos rfl, HTT.out]
  refine ⟨?_, (HT3.out.trans H5.out).tc⟩
  rw [← E2.out]
  rfl
theorem open_01 {B : Nat} {w : World} {tb mb : Nat} {G : Int → SM} {T : Tb} (q : TBuf B w tb mb G T) (hc : T.client = true) (hz : (openId T false : Int) ∉ T.dom) (hl : T.dom.length ≤ 1000) :
  Calls Tryz.prog 11 #[.pointer (some ⟨tb, 0, none⟩), .bool false] w fun e w' => TOpen B w w' tb mb G T false e := by
 have hk : kindN T.client false = 0 := by rw [hc]; rfl
 have HID : Hid (openId T false = 4 * T.op0 + 0) := Lib.hid (by unfold openId; rw [hk]; rfl)
 have HOK : Hid (openOk T false = decide (T.op0 < T.lim0)) := Lib.hid (by unfold openOk; rw [hk]; rfl)
 have HTT : Hid (setOp T (kindN T.client false) (opN T (kindN T.client false) + 1) = { T with op0 := T.op0 + 1 }) := Lib.hid (by rw [hk]; rfl)
 have hn := q.num
 have HNUM := Lib.hid q.num
 have HC := Lib.hid hc
 have HQ := Lib.hid q
 have HZ := Lib.hid (And.intro hz hl)
 have HM0 : Hid (Mod (fun _ => False) w w) := Lib.hid (Mod.refl _ _)
 obtain ⟨n, hnn⟩ : ∃ n : Int, (T.op0 : Int) = n := ⟨_, rfl⟩
 obtain ⟨l, hll⟩ : ∃ l : Int, (T.lim0 : Int) = l := ⟨_, rfl⟩
 have HNN := Lib.hid hnn
 have HLL := Lib.hid hll
 have u1 : IntKind.u64.wrap (n + 1) = n + 1 := IntWalk.u64_in _ (by omega)
 have u4 : IntKind.u64.wrap (4 * n) = 4 * n := IntWalk.u64_in _ (by omega)
 have u5 : IntKind.u64.wrap (4 * n + 0) = 4 * n + 0 := IntWalk.u64_in _ (by omega)
 have hdec : decide (l ≤ n) = !decide (T.op0 < T.lim0) := by
  by_cases h : T.op0 < T.lim0
  ·rw [decide_eq_true h, decide_eq_false (by omega)]; rfl
  ·rw [decide_eq_false h, decide_eq_true (by omega)]; rfl
 have c0 : w.cell? ⟨tb, 0, none⟩ = some (.bool true) := by
  have := HQ.out.blk.cellAt 0 (v := .bool T.client) rfl
  rw [HC.out] at this
  exact this
 have co : w.cell? ⟨tb, 23, none⟩ = some (.int .u64 n) := by rw [← HNN.out]; exact HQ.out.cell 1 rfl
 have cl : w.cell? ⟨tb, 27, none⟩ = some (.int .u64 l) := by rw [← HLL.out]; exact HQ.out.cell 5 rfl
 have fo : w.frozen? ⟨tb, 23, none⟩ = false := HQ.out.blk.free 23
 clear q hn hnn hll hz hl hk hc
 cases hlt : decide (T.op0 < T.lim0) with
 | false =>
  rw [hlt] at hdec HOK
  have ht : decide (l ≤ n) = true := hdec
  clear hdec hlt
  go_enter Tryz.func11, Tryz.ntmps11
  go_wp2_with fail
  go_quiet (first | (go_at_call 28; refine Calls.quiet_of_same (sbitq _ _)))
  have HM1 : Hid (Mod (fun _ => False) w (w.drewN nq)) := Lib.hid (HM0.out.drewN nq)
  clear c0 co cl fo
  generalize w.drewN nq = W1 at *
  have HQ1 := Lib.hid (HQ.out.still HM1.out)
  have c0 : W1.cell? ⟨tb, 0, none⟩ = some (.bool true) := by
   have := HQ1.out.blk.cellAt 0 (v := .bool T.client) rfl
   rw [HC.out] at this
   exact this
  have co : W1.cell? ⟨tb, 23, none⟩ = some (.int .u64 n) := by rw [← HNN.out]; exact HQ1.out.cell 1 rfl
  have cl : W1.cell? ⟨tb, 27, none⟩ = some (.int .u64 l) := by rw [← HLL.out]; exact HQ1.out.cell 5 rfl
  have fo : W1.frozen? ⟨tb, 23, none⟩ = false := HQ1.out.blk.free 23
  go_wp2_with fail
  go_quiet (first | (go_at_call 28; refine Calls.quiet_of_same (sbitq _ _)))
  have HM2 : Hid (Mod (fun _ => False) w (W1.drewN nq)) := Lib.hid (HM1.out.drewN nq)
  clear c0 co cl fo
  generalize W1.drewN nq = W2 at *
  have HQ2 := Lib.hid (HQ.out.still HM2.out)
  have c0 : W2.cell? ⟨tb, 0, none⟩ = some (.bool true) := by
   have := HQ2.out.blk.cellAt 0 (v := .bool T.client) rfl
   rw [HC.out] at this
   exact this
  have co : W2.cell? ⟨tb, 23, none⟩ = some (.int .u64 n) := by rw [← HNN.out]; exact HQ2.out.cell 1 rfl
  have cl : W2.cell? ⟨tb, 27, none⟩ = some (.int .u64 l) := by rw [← HLL.out]; exact HQ2.out.cell 5 rfl
  have fo : W2.frozen? ⟨tb, 23, none⟩ = false := HQ2.out.blk.free 23
  go_wp2_with fail
  go_ret2
  unfold TOpen openV opE openT
  rw [HOK.out, if_neg (by decide), if_neg (by decide), if_neg (by decide)]
  exact ⟨rfl, HQ.out.tc HM2.out⟩
 | true =>
  rw [hlt] at hdec HOK
  have HLT := Lib.hid (of_decide_eq_true hlt)
  have ht : decide (l ≤ n) = false := hdec
  clear hdec hlt
  go_enter Tryz.func11, Tryz.ntmps11
  go_wp2_with fail
  go_quiet (first | (go_at_call 28; refine Calls.quiet_of_same (sbitq _ _)))
  have HM1 : Hid (Mod (fun _ => False) w (w.drewN nq)) := Lib.hid (HM0.out.drewN nq)
  clear c0 co cl fo
  generalize w.drewN nq = W1 at *
  have HQ1 := Lib.hid (HQ.out.still HM1.out)
  have c0 : W1.cell? ⟨tb, 0, none⟩ = some (.bool true) := by
   have := HQ1.out.blk.cellAt 0 (v := .bool T.client) rfl
   rw [HC.out] at this
   exact this
  have co : W1.cell? ⟨tb, 23, none⟩ = some (.int .u64 n) := by rw [← HNN.out]; exact HQ1.out.cell 1 rfl
  have cl : W1.cell? ⟨tb, 27, none⟩ = some (.int .u64 l) := by rw [← HLL.out]; exact HQ1.out.cell 5 rfl
  have fo : W1.frozen? ⟨tb, 23, none⟩ = false := HQ1.out.blk.free 23
  go_wp2_with fail
  go_quiet (first | (go_at_call 28; refine Calls.quiet_of_same (sbitq _ _)))
  have HM2 : Hid (Mod (fun _ => False) w (W1.drewN nq)) := Lib.hid (HM1.out.drewN nq)
  clear c0 co cl fo
  generalize W1.drewN nq = W2 at *
  have HQ2 := Lib.hid (HQ.out.still HM2.out)
  have c0 : W2.cell? ⟨tb, 0, none⟩ = some (.bool true) := by
   have := HQ2.out.blk.cellAt 0 (v := .bool T.client) rfl
   rw [HC.out] at this
   exact this
  have co : W2.cell? ⟨tb, 23, none⟩ = some (.int .u64 n) := by rw [← HNN.out]; exact HQ2.out.cell 1 rfl
  have cl : W2.cell? ⟨tb, 27, none⟩ = some (.int .u64 l) := by rw [← HLL.out]; exact HQ2.out.cell 5 rfl
  have fo : W2.frozen? ⟨tb, 23, none⟩ = false := HQ2.out.blk.free 23
  go_wp2_with fail
  go_region
  have e1 : n + 1 = ((T.op0 + 1 : Nat) : Int) := by rw [← HNN.out]; push_cast; rfl
  have e2 : 4 * n = (openId T false : Int) := by rw [HID.out, ← HNN.out]; push_cast; omega
  have E2 := Lib.hid e2
  have HT3 : Hid (TT B w (W2.setCell ⟨tb, 23, none⟩ (.int .u64 (n + 1))).drew tb mb G G T { T with op0 := T.op0 + 1 }) := Lib.hid (by
   rw [e1]
   have h3 := HQ2.out.setTT { T with op0 := T.op0 + 1 } 1 (.int .u64 ((T.op0 + 1 : Nat) : Int)) rfl rfl rfl rfl rfl (by
    have hn := HNUM.out
    have h1 := HLT.out
    refine ⟨hn.1, hn.2.1, hn.2.2.1, hn.2.2.2.1, ?_, ?_, ?_, ?_, hn.2.2.2.2.2.2.2.2⟩ <;> dsimp only <;> omega)
   have h23 := (HQ.out.stay HM2.out).trans h3
   exact h23.trans (h23.1.stay (Mod.refl _ _).drew))
  have HMK : Hid (Calls Tryz.prog 29 #[.pointer (some ⟨tb, 0, none⟩), .int .u64 (4 * n)] (W2.setCell ⟨tb, 23, none⟩ (.int .u64 (n + 1))).drew fun e w' => TMk B (W2.setCell ⟨tb, 23, none⟩ (.int .u64 (n + 1))).drew w' tb mb G { T with op0 := T.op0 + 1 } (mkT { T with op0 := T.op0 + 1 } (openId T false)) (openId T false) e) := Lib.hid (by
   rw [e2]
   exact make_any HT3.out.1 (by rw [HID.out]; have := HNUM.out; omega) HZ.out.1 HZ.out.2)
  clear e1 e2
  go_wp2_with (first
   | (go_at_call 29; (with_reducible refine HMK.out.mono ?_); rintro e w5 ⟨G5, rfl, hT⟩; have H5 := Lib.hid hT; clear hT)
   | fail)
  go_ret2
  unfold TOpen openV opE openT
  rw [HOK.out, if_pos rfl, if_pos rfl, if_pos rfl, HTT.out]
  refine ⟨?_, (HT3.out.trans H5.out).tc⟩
  rw [← E2.out]
  rfl
theorem open_10 {B : Nat} {w : World} {tb mb : Nat} {G : Int → SM} {T : Tb} (q : TBuf B w tb mb G T) (hc : T.client = false) (hz : (openId T true : Int) ∉ T.dom) (hl : T.dom.length ≤ 1000) :
  Calls Tryz.prog 11 #[.pointer (some ⟨tb, 0, none⟩), .bool true] w fun e w' => TOpen B w w' tb mb G T true e := by
 have hk : kindN T.client true = 3 := by rw [hc]; rfl
 have HID : Hid (openId T true = 4 * T.op3 + 3) := Lib.hid (by unfold openId; rw [hk]; rfl)
 have HOK : Hid (openOk T true = decide (T.op3 < T.lim1)) := Lib.hid (by unfold openOk; rw [hk]; rfl)
 have HTT : Hid (setOp T (kindN T.client true) (opN T (kindN T.client true) + 1) = { T with op3 := T.op3 + 1 }) := Lib.hid (by rw [hk]; rfl)
 have hn := q.num
 have HNUM := Lib.hid q.num
 have HC := Lib.hid hc
 have HQ := Lib.hid q
 have HZ := Lib.hid (And.intro hz hl)
 have HM0 : Hid (Mod (fun _ => False) w w) := Lib.hid (Mod.refl _ _)
 obtain ⟨n, hnn⟩ : ∃ n : Int, (T.op3 : Int) = n := ⟨_, rfl⟩
 obtain ⟨l, hll⟩ : ∃ l : Int, (T.lim1 : Int) = l := ⟨_, rfl⟩
 have HNN := Lib.hid hnn
 have HLL := Lib.hid hll
 have u1 : IntKind.u64.wrap (n + 1) = n + 1 := IntWalk.u64_in _ (by omega)
 have u4 : IntKind.u64.wrap (4 * n) = 4 * n := IntWalk.u64_in _ (by omega)
 have u5 : IntKind.u64.wrap (4 * n + 3) = 4 * n + 3 := IntWalk.u64_in _ (by omega)
 have hdec : decide (l ≤ n) = !decide (T.op3 < T.lim1) := by
  by_cases h : T.op3 < T.lim1
  ·rw [decide_eq_true h, decide_eq_false (by omega)]; rfl
  ·rw [decide_eq_false h, decide_eq_true (by omega)]; rfl
 have c0 : w.cell? ⟨tb, 0, none⟩ = some (.bool false) := by
  have := HQ.out.blk.cellAt 0 (v := .bool T.client) rfl
  rw [HC.out] at this
  exact this
 have co : w.cell? ⟨tb, 26, none⟩ = some (.int .u64 n) := by rw [← HNN.out]; exact HQ.out.cell 4 rfl
 have cl : w.cell? ⟨tb, 28, none⟩ = some (.int .u64 l) := by rw [← HLL.out]; exact HQ.out.cell 6 rfl
 have fo : w.frozen? ⟨tb, 26, none⟩ = false := HQ.out.blk.free 26
 clear q hn hnn hll hz hl hk hc
 cases hlt : decide (T.op3 < T.lim1) with
 | false =>
  rw [hlt] at hdec HOK
  have ht : decide (l ≤ n) = true := hdec
  clear hdec hlt
  go_enter Tryz.func11, Tryz.ntmps11
  go_wp2_with fail
  go_quiet (first | (go_at_call 28; refine Calls.quiet_of_same (sbitq _ _)))
  have HM1 : Hid (Mod (fun _ => False) w (w.drewN nq)) := Lib.hid (HM0.out.drewN nq)
  clear c0 co cl fo
  generalize w.drewN nq = W1 at *
  have HQ1 := Lib.hid (HQ.out.still HM1.out)
  have c0 : W1.cell? ⟨tb, 0, none⟩ = some (.bool false) := by
   have := HQ1.out.blk.cellAt 0 (v := .bool T.client) rfl
   rw [HC.out] at this
   exact this
  have co : W1.cell? ⟨tb, 26, none⟩ = some (.int .u64 n) := by rw [← HNN.out]; exact HQ1.out.cell 4 rfl
  have cl : W1.cell? ⟨tb, 28, none⟩ = some (.int .u64 l) := by rw [← HLL.out]; exact HQ1.out.cell 6 rfl
  have fo : W1.frozen? ⟨tb, 26, none⟩ = false := HQ1.out.blk.free 26
  go_wp2_with fail
  go_quiet (first | (go_at_call 28; refine Calls.quiet_of_same (sbitq _ _)))
  have HM2 : Hid (Mod (fun _ => False) w (W1.drewN nq)) := Lib.hid (HM1.out.drewN nq)
  clear c0 co cl fo
  generalize W1.drewN nq = W2 at *
  have HQ2 := Lib.hid (HQ.out.still HM2.out)
  have c0 : W2.cell? ⟨tb, 0, none⟩ = some (.bool false) := by
   have := HQ2.out.blk.cellAt 0 (v := .bool T.client) rfl
   rw [HC.out] at this
   exact this
  have co : W2.cell? ⟨tb, 26, none⟩ = some (.int .u64 n) := by rw [← HNN.out]; exact HQ2.out.cell 4 rfl
  have cl : W2.cell? ⟨tb, 28, none⟩ = some (.int .u64 l) := by rw [← HLL.out]; exact HQ2.out.cell 6 rfl
  have fo : W2.frozen? ⟨tb, 26, none⟩ = false := HQ2.out.blk.free 26
  go_wp2_with fail
  go_ret2
  unfold TOpen openV opE openT
  rw [HOK.out, if_neg (by decide), if_neg (by decide), if_neg (by decide)]
  exact ⟨rfl, HQ.out.tc HM2.out⟩
 | true =>
  rw [hlt] at hdec HOK
  have HLT := Lib.hid (of_decide_eq_true hlt)
  have ht : decide (l ≤ n) = false := hdec
  clear hdec hlt
  go_enter Tryz.func11, Tryz.ntmps11
  go_wp2_with fail
  go_quiet (first | (go_at_call 28; refine Calls.quiet_of_same (sbitq _ _)))
  have HM1 : Hid (Mod (fun _ => False) w (w.drewN nq)) := Lib.hid (HM0.out.drewN nq)
  clear c0 co cl fo
  generalize w.drewN nq = W1 at *
  have HQ1 := Lib.hid (HQ.out.still HM1.out)
  have c0 : W1.cell? ⟨tb, 0, none⟩ = some (.bool false) := by
   have := HQ1.out.blk.cellAt 0 (v := .bool T.client) rfl
   rw [HC.out] at this
   exact this
  have co : W1.cell? ⟨tb, 26, none⟩ = some (.int .u64 n) := by rw [← HNN.out]; exact HQ1.out.cell 4 rfl
  have cl : W1.cell? ⟨tb, 28, none⟩ = some (.int .u64 l) := by rw [← HLL.out]; exact HQ1.out.cell 6 rfl
  have fo : W1.frozen? ⟨tb, 26, none⟩ = false := HQ1.out.blk.free 26
  go_wp2_with fail
  go_quiet (first | (go_at_call 28; refine Calls.quiet_of_same (sbitq _ _)))
  have HM2 : Hid (Mod (fun _ => False) w (W1.drewN nq)) := Lib.hid (HM1.out.drewN nq)
  clear c0 co cl fo
  generalize W1.drewN nq = W2 at *
  have HQ2 := Lib.hid (HQ.out.still HM2.out)
  have c0 : W2.cell? ⟨tb, 0, none⟩ = some (.bool false) := by
   have := HQ2.out.blk.cellAt 0 (v := .bool T.client) rfl
   rw [HC.out] at this
   exact this
  have co : W2.cell? ⟨tb, 26, none⟩ = some (.int .u64 n) := by rw [← HNN.out]; exact HQ2.out.cell 4 rfl
  have cl : W2.cell? ⟨tb, 28, none⟩ = some (.int .u64 l) := by rw [← HLL.out]; exact HQ2.out.cell 6 rfl
  have fo : W2.frozen? ⟨tb, 26, none⟩ = false := HQ2.out.blk.free 26
  go_wp2_with fail
  go_region
  have e1 : n + 1 = ((T.op3 + 1 : Nat) : Int) := by rw [← HNN.out]; push_cast; rfl
  have e2 : 4 * n + 3 = (openId T true : Int) := by rw [HID.out, ← HNN.out]; push_cast; rfl
  have E2 := Lib.hid e2
  have HT3 : Hid (TT B w (W2.setCell ⟨tb, 26, none⟩ (.int .u64 (n + 1))).drew tb mb G G T { T with op3 := T.op3 + 1 }) := Lib.hid (by
   rw [e1]
   have h3 := HQ2.out.setTT { T with op3 := T.op3 + 1 } 4 (.int .u64 ((T.op3 + 1 : Nat) : Int)) rfl rfl rfl rfl rfl (by
    have hn := HNUM.out
    have h1 := HLT.out
    refine ⟨hn.1, hn.2.1, hn.2.2.1, hn.2.2.2.1, ?_, ?_, ?_, ?_, hn.2.2.2.2.2.2.2.2⟩ <;> dsimp only <;> omega)
   have h23 := (HQ.out.stay HM2.out).trans h3
   exact h23.trans (h23.1.stay (Mod.refl _ _).drew))
  have HMK : Hid (Calls Tryz.prog 29 #[.pointer (some ⟨tb, 0, none⟩), .int .u64 (4 * n + 3)] (W2.setCell ⟨tb, 26, none⟩ (.int .u64 (n + 1))).drew fun e w' => TMk B (W2.setCell ⟨tb, 26, none⟩ (.int .u64 (n + 1))).drew w' tb mb G { T with op3 := T.op3 + 1 } (mkT { T with op3 := T.op3 + 1 } (openId T true)) (openId T true) e) := Lib.hid (by
   rw [e2]
   exact make_any HT3.out.1 (by rw [HID.out]; have := HNUM.out; omega) HZ.out.1 HZ.out.2)
  clear e1 e2
  go_wp2_with (first
   | (go_at_call 29; (with_reducible refine HMK.out.mono ?_); rintro e w5 ⟨G5, rfl, hT⟩; have H5 := Lib.hid hT; clear hT)
   | fail)
  go_ret2
  unfold TOpen openV opE openT
  rw [HOK.out, if_pos rfl, if_pos rfl, if_pos rfl, HTT.out]
  refine ⟨?_, (HT3.out.trans H5.out).tc⟩
  rw [← E2.out]
  rfl
theorem open_11 {B : Nat} {w : World} {tb mb : Nat} {G : Int → SM} {T : Tb} (q : TBuf B w tb mb G T) (hc : T.client = true) (hz : (openId T true : Int) ∉ T.dom) (hl : T.dom.length ≤ 1000) :
  Calls Tryz.prog 11 #[.pointer (some ⟨tb, 0, none⟩), .bool true] w fun e w' => TOpen B w w' tb mb G T true e := by
 have hk : kindN T.client true = 2 := by rw [hc]; rfl
 have HID : Hid (openId T true = 4 * T.op2 + 2) := Lib.hid (by unfold openId; rw [hk]; rfl)
 have HOK : Hid (openOk T true = decide (T.op2 < T.lim1)) := Lib.hid (by unfold openOk; rw [hk]; rfl)
 have HTT : Hid (setOp T (kindN T.client true) (opN T (kindN T.client true) + 1) = { T with op2 := T.op2 + 1 }) := Lib.hid (by rw [hk]; rfl)
 have hn := q.num
 have HNUM := Lib.hid q.num
 have HC := Lib.hid hc
 have HQ := Lib.hid q
 have HZ := Lib.hid (And.intro hz hl)
 have HM0 : Hid (Mod (fun _ => False) w w) := Lib.hid (Mod.refl _ _)
 obtain ⟨n, hnn⟩ : ∃ n : Int, (T.op2 : Int) = n := ⟨_, rfl⟩
 obtain ⟨l, hll⟩ : ∃ l : Int, (T.lim1 : Int) = l := ⟨_, rfl⟩
 have HNN := Lib.hid hnn
 have HLL := Lib.hid hll
 have u1 : IntKind.u64.wrap (n + 1) = n + 1 := IntWalk.u64_in _ (by omega)
 have u4 : IntKind.u64.wrap (4 * n) = 4 * n := IntWalk.u64_in _ (by omega)
 have u5 : IntKind.u64.wrap (4 * n + 2) = 4 * n + 2 := IntWalk.u64_in _ (by omega)
 have hdec : decide (l ≤ n) = !decide (T.op2 < T.lim1) := by
  by_cases h : T.op2 < T.lim1
  ·rw [decide_eq_true h, decide_eq_false (by omega)]; rfl
  ·rw [decide_eq_false h, decide_eq_true (by omega)]; rfl
 have c0 : w.cell? ⟨tb, 0, none⟩ = some (.bool true) := by
  have := HQ.out.blk.cellAt 0 (v := .bool T.client) rfl
  rw [HC.out] at this
  exact this
 have co : w.cell? ⟨tb, 25, none⟩ = some (.int .u64 n) := by rw [← HNN.out]; exact HQ.out.cell 3 rfl
 have cl : w.cell? ⟨tb, 28, none⟩ = some (.int .u64 l) := by rw [← HLL.out]; exact HQ.out.cell 6 rfl
 have fo : w.frozen? ⟨tb, 25, none⟩ = false := HQ.out.blk.free 25
 clear q hn hnn hll hz hl hk hc
 cases hlt : decide (T.op2 < T.lim1) with
 | false =>
  rw [hlt] at hdec HOK
  have ht : decide (l ≤ n) = true := hdec
  clear hdec hlt
  go_enter Tryz.func11, Tryz.ntmps11
  go_wp2_with fail
  go_quiet (first | (go_at_call 28; refine Calls.quiet_of_same (sbitq _ _)))
  have HM1 : Hid (Mod (fun _ => False) w (w.drewN nq)) := Lib.hid (HM0.out.drewN nq)
  clear c0 co cl fo
  generalize w.drewN nq = W1 at *
  have HQ1 := Lib.hid (HQ.out.still HM1.out)
  have c0 : W1.cell? ⟨tb, 0, none⟩ = some (.bool true) := by
   have := HQ1.out.blk.cellAt 0 (v := .bool T.client) rfl
   rw [HC.out] at this
   exact this
  have co : W1.cell? ⟨tb, 25, none⟩ = some (.int .u64 n) := by rw [← HNN.out]; exact HQ1.out.cell 3 rfl
  have cl : W1.cell? ⟨tb, 28, none⟩ = some (.int .u64 l) := by rw [← HLL.out]; exact HQ1.out.cell 6 rfl
  have fo : W1.frozen? ⟨tb, 25, none⟩ = false := HQ1.out.blk.free 25
  go_wp2_with fail
  go_quiet (first | (go_at_call 28; refine Calls.quiet_of_same (sbitq _ _)))
  have HM2 : Hid (Mod (fun _ => False) w (W1.drewN nq)) := Lib.hid (HM1.out.drewN nq)
  clear c0 co cl fo
  generalize W1.drewN nq = W2 at *
  have HQ2 := Lib.hid (HQ.out.still HM2.out)
  have c0 : W2.cell? ⟨tb, 0, none⟩ = some (.bool true) := by
   have := HQ2.out.blk.cellAt 0 (v := .bool T.client) rfl
   rw [HC.out] at this
   exact this
  have co : W2.cell? ⟨tb, 25, none⟩ = some (.int .u64 n) := by rw [← HNN.out]; exact HQ2.out.cell 3 rfl
  have cl : W2.cell? ⟨tb, 28, none⟩ = some (.int .u64 l) := by rw [← HLL.out]; exact HQ2.out.cell 6 rfl
  have fo : W2.frozen? ⟨tb, 25, none⟩ = false := HQ2.out.blk.free 25
  go_wp2_with fail
  go_ret2
  unfold TOpen openV opE openT
  rw [HOK.out, if_neg (by decide), if_neg (by decide), if_neg (by decide)]
  exact ⟨rfl, HQ.out.tc HM2.out⟩
 | true =>
  rw [hlt] at hdec HOK
  have HLT := Lib.hid (of_decide_eq_true hlt)
  have ht : decide (l ≤ n) = false := hdec
  clear hdec hlt
  go_enter Tryz.func11, Tryz.ntmps11
  go_wp2_with fail
  go_quiet (first | (go_at_call 28; refine Calls.quiet_of_same (sbitq _ _)))
  have HM1 : Hid (Mod (fun _ => False) w (w.drewN nq)) := Lib.hid (HM0.out.drewN nq)
  clear c0 co cl fo
  generalize w.drewN nq = W1 at *
  have HQ1 := Lib.hid (HQ.out.still HM1.out)
  have c0 : W1.cell? ⟨tb, 0, none⟩ = some (.bool true) := by
   have := HQ1.out.blk.cellAt 0 (v := .bool T.client) rfl
   rw [HC.out] at this
   exact this
  have co : W1.cell? ⟨tb, 25, none⟩ = some (.int .u64 n) := by rw [← HNN.out]; exact HQ1.out.cell 3 rfl
  have cl : W1.cell? ⟨tb, 28, none⟩ = some (.int .u64 l) := by rw [← HLL.out]; exact HQ1.out.cell 6 rfl
  have fo : W1.frozen? ⟨tb, 25, none⟩ = false := HQ1.out.blk.free 25
  go_wp2_with fail
  go_quiet (first | (go_at_call 28; refine Calls.quiet_of_same (sbitq _ _)))
  have HM2 : Hid (Mod (fun _ => False) w (W1.drewN nq)) := Lib.hid (HM1.out.drewN nq)
  clear c0 co cl fo
  generalize W1.drewN nq = W2 at *
  have HQ2 := Lib.hid (HQ.out.still HM2.out)
  have c0 : W2.cell? ⟨tb, 0, none⟩ = some (.bool true) := by
   have := HQ2.out.blk.cellAt 0 (v := .bool T.client) rfl
   rw [HC.out] at this
   exact this
  have co : W2.cell? ⟨tb, 25, none⟩ = some (.int .u64 n) := by rw [← HNN.out]; exact HQ2.out.cell 3 rfl
  have cl : W2.cell? ⟨tb, 28, none⟩ = some (.int .u64 l) := by rw [← HLL.out]; exact HQ2.out.cell 6 rfl
  have fo : W2.frozen? ⟨tb, 25, none⟩ = false := HQ2.out.blk.free 25
  go_wp2_with fail
  go_region
  have e1 : n + 1 = ((T.op2 + 1 : Nat) : Int) := by rw [← HNN.out]; push_cast; rfl
  have e2 : 4 * n + 2 = (openId T true : Int) := by rw [HID.out, ← HNN.out]; push_cast; rfl
  have E2 := Lib.hid e2
  have HT3 : Hid (TT B w (W2.setCell ⟨tb, 25, none⟩ (.int .u64 (n + 1))).drew tb mb G G T { T with op2 := T.op2 + 1 }) := Lib.hid (by
   rw [e1]
   have h3 := HQ2.out.setTT { T with op2 := T.op2 + 1 } 3 (.int .u64 ((T.op2 + 1 : Nat) : Int)) rfl rfl rfl rfl rfl (by
    have hn := HNUM.out
    have h1 := HLT.out
    refine ⟨hn.1, hn.2.1, hn.2.2.1, hn.2.2.2.1, ?_, ?_, ?_, ?_, hn.2.2.2.2.2.2.2.2⟩ <;> dsimp only <;> omega)
   have h23 := (HQ.out.stay HM2.out).trans h3
   exact h23.trans (h23.1.stay (Mod.refl _ _).drew))
  have HMK : Hid (Calls Tryz.prog 29 #[.pointer (some ⟨tb, 0, none⟩), .int .u64 (4 * n + 2)] (W2.setCell ⟨tb, 25, none⟩ (.int .u64 (n + 1))).drew fun e w' => TMk B (W2.setCell ⟨tb, 25, none⟩ (.int .u64 (n + 1))).drew w' tb mb G { T with op2 := T.op2 + 1 } (mkT { T with op2 := T.op2 + 1 } (openId T true)) (openId T true) e) := Lib.hid (by
   rw [e2]
   exact make_any HT3.out.1 (by rw [HID.out]; have := HNUM.out; omega) HZ.out.1 HZ.out.2)
  clear e1 e2
  go_wp2_with (first
   | (go_at_call 29; (with_reducible refine HMK.out.mono ?_); rintro e w5 ⟨G5, rfl, hT⟩; have H5 := Lib.hid hT; clear hT)
   | fail)
  go_ret2
  unfold TOpen openV opE openT
  rw [HOK.out, if_pos rfl, if_pos rfl, if_pos rfl, HTT.out]
  refine ⟨?_, (HT3.out.trans H5.out).tc⟩
  rw [← E2.out]
  rfl
theorem topen_any {B : Nat} {w : World} {tb mb : Nat} {G : Int → SM} {T : Tb} (q : TBuf B w tb mb G T) (b : Bool) (hz : (openId T b : Int) ∉ T.dom) (hl : T.dom.length ≤ 1000) :
  Calls Tryz.prog 11 #[.pointer (some ⟨tb, 0, none⟩), .bool b] w fun e w' => TOpen B w w' tb mb G T b e := by
 cases b <;> cases hc : T.client
 ·exact open_00 q hc hz hl
 ·exact open_01 q hc hz hl
 ·exact open_10 q hc hz hl
 ·exact open_11 q hc hz hl
end Go.Proofs.YtolgeghdkoodnaaGreatDoor
set_option maxRecDepth 100000
namespace Go.Proofs.YtolgeghdkoodnaaGreatDoor
open Go.RowKit Go.Maps
def cutP (p : Pm) : Pm := { p with d := min p.d 100000, s := min p.s 100000 }
def newT (c : Bool) (p : Pm) : Tb := ⟨c, cutP p, [], fun _ => st0 0, 0, 0, 0, 0, 0, 0, 0, 0, 0, false⟩
theorem built_tb (c : Bool) (p : Pm) (m : Nat) (h : p.t.length = 16) : Tryz.prog.built 75 [(0, .bool c), (1, .agg (pmC (cutP p))), (2, .map (some m))] = some (tbC m (newT c p)) := by
 obtain ⟨i, d, s, n, hh, t⟩ := p
 obtain ⟨a0, a1, a2, a3, a4, a5, a6, a7, a8, a9, a10, a11, a12, a13, a14, a15, rfl⟩ := list16 t h
 kernel_rfl
theorem pmC_cut (p : Pm) : ((pmC p).setIfInBounds 1 (.int .u64 ((min p.d 100000 : Nat) : Int))).setIfInBounds 2 (.int .u64 ((min p.s 100000 : Nat) : Int)) = pmC (cutP p) := by
 apply Array.toList_inj.1
 simp [pmC, pmL, cutP]
theorem may_num {p : Pm} (h : mayB p = true) : (p.i : Int) ≤ 4611686018427387903 ∧ (p.d : Int) ≤ 4611686018427387903 ∧ (p.s : Int) ≤ 4611686018427387903 ∧ (p.n : Int) ≤ 1152921504606846976 := by
 unfold mayB at h
 simp only [Bool.and_eq_true, decide_eq_true_eq] at h
 exact ⟨h.1.1.1.1, h.1.1.1.2, h.1.1.2, h.1.2⟩
theorem TBuf.fresh (B : Nat) (w1 : World) (c : Bool) (p : Pm) (hp : mayB p = true) (h : p.t.length = 16) (hB : B ≤ w1.heap.size) :
  TBuf B ((w1.alloc (.map #[] 0)).alloc (.cells (tbC w1.heap.size (newT c p)) 75)) (w1.heap.size + 1) w1.heap.size (fun _ => ⟨0, 0, .slice none 0 0, .slice none 0 0, 0, 0, 0⟩) (newT c p) := by
 have hb := Blk.new (w1.alloc (.map #[] 0)) (tbC w1.heap.size (newT c p)) 75
 rw [World.size_alloc] at hb
 have hi := IMap.made 26 .u64 w1 (fun _ => Value.pointer (some ⟨0, 0, none⟩))
 have hn := may_num hp
 have z0 : nat64 0 := by unfold nat64; omega
 refine ⟨by omega, hB, hb, hi.kept (S := fun _ => False) ((Mod.refl _ _).alloc _) (fun h => h), fun z hz => (by cases hz), fun z hz => (by cases hz), fun z hz => (by cases hz), by omega, h, fun z hz => (by cases hz), ?_⟩
 refine ⟨?_, ?_, ?_, ?_, ?_, ?_, ?_, ?_, ?_, ?_, z0, z0, z0⟩
 ·show p.i ≤ 4611686018427387904; omega
 ·show min p.d 100000 ≤ 100000; omega
 ·show min p.s 100000 ≤ 100000; omega
 ·show p.n ≤ 1152921504606846976; omega
 all_goals exact Nat.zero_le _
def TNew (w w' : World) (c : Bool) (p : Pm) (e : Ending) : Prop := ∃ tb mb G, e = .returned (.pointer (some ⟨tb, 0, none⟩)) ∧ TBuf w.heap.size w' tb mb G (newT c p) ∧ Mod (fun _ => False) w w'
theorem tnew_any (c : Bool) (p : Pm) (hp : mayB p = true) (h16 : p.t.length = 16) (w : World) :
  Calls Tryz.prog 8 #[.bool c, .agg (pmC p)] w fun e w' => TNew w w' c p e := by
 have HB := Lib.hid (PmB.new w p h16)
 have HM := Lib.hid (fun W => may_any h16 W)
 rw [hp] at HM
 unfold pmV at HM
 have hmm := @run_makeMap Tryz.prog
 have m1 : min (p.d : Int) 100000 = ((min p.d 100000 : Nat) : Int) := by omega
 have m2 : min (p.s : Int) 100000 = ((min p.s 100000 : Nat) : Int) := by omega
 have HP := Lib.hid hp
 have H16 := Lib.hid h16
 have HX : Hid (∀ W1, Blk W1 w.heap.size (pmC p) 29 → Blk ((W1.setCell ⟨w.heap.size, 1, none⟩ (.int .u64 ((min p.d 100000 : Nat) : Int))).setCell ⟨w.heap.size, 2, none⟩ (.int .u64 ((min p.s 100000 : Nat) : Int))) w.heap.size (pmC (cutP p)) 29) := Lib.hid (fun W1 hW => by
  have := (hW.set 1 (.int .u64 ((min p.d 100000 : Nat) : Int))).set 2 (.int .u64 ((min p.s 100000 : Nat) : Int))
  rw [pmC_cut] at this
  exact this)
 have HS : Hid (∀ q : Pm, q.t.length = 16 → (Tryz.prog.info? 29).map (·.size) = some (pmC q).size) := Lib.hid (fun q hq => size25 q hq)
 have HS2 : Hid ((Tryz.prog.info? 29).map (·.size) = some (pmC (cutP p)).size) := Lib.hid (HS.out (cutP p) h16)
 clear hp h16
 go_enter Tryz.func8, Tryz.ntmps8
 go_wp2_with (first
  | ((with_reducible refine wpList_load_blk ?_ 29 (.tmp 3) ?_ w.heap.size ?_ (pmC p) 29 _ HB.out.blk Tryz.underlying29 ?_ (HS.out p H16.out) ?_); (· exact rfl); (· exact rfl); (· exact rfl); (· exact rfl))
  | (go_at_call 27; (with_reducible refine (HM.out _).mono ?_); rintro e w1 ⟨rfl, hm⟩; have HM1 := Lib.hid hm; have HB1 := Lib.hid (hm.blk HB.out.blk (fun h => h)); have d1 : w1.cell? ⟨w.heap.size, 1, none⟩ = some (.int .u64 (p.d : Int)) := HB1.out.cellAt 1 rfl; have d2 : w1.cell? ⟨w.heap.size, 2, none⟩ = some (.int .u64 (p.s : Int)) := HB1.out.cellAt 2 rfl; have f1 : w1.frozen? ⟨w.heap.size, 1, none⟩ = false := HB1.out.free 1; have f2 : w1.frozen? ⟨w.heap.size, 2, none⟩ = false := HB1.out.free 2; clear hm)
  | ((with_reducible refine wpList_load_blk ?_ 29 (.tmp 3) ?_ w.heap.size ?_ (pmC (cutP p)) 29 _ (HX.out _ HB1.out) Tryz.underlying29 ?_ HS2.out ?_); (· exact rfl); (· exact rfl); (· exact rfl); (· exact rfl))
  | ((with_reducible refine wpList_build_c ?_ 75 [(0, .tmp 16), (1, .tmp 17), (2, .tmp 18)] ?_ [(0, .bool c), (1, .agg (pmC (cutP p))), (2, .map (some w1.heap.size))] ?_ _ (built_tb c p w1.heap.size H16.out) ?_); (· exact rfl); (· exact rfl); (· exact rfl))
  | fail)
 go_ret
 have hMw : Mod (fun _ => False) w w1 := ((Mod.refl _ _).alloc _).trans HM1.out
 have hM3 : Mod (fun _ => False) w ((w1.setCell ⟨w.heap.size, 1, none⟩ (.int .u64 ((min p.d 100000 : Nat) : Int))).setCell ⟨w.heap.size, 2, none⟩ (.int .u64 ((min p.s 100000 : Nat) : Int))) :=
  (hMw.setCell (p := ⟨w.heap.size, 1, none⟩) (fun h => absurd h (Nat.lt_irrefl _)) _).setCell (p := ⟨w.heap.size, 2, none⟩) (fun h => absurd h (Nat.lt_irrefl _)) _
 have hsz : ((w1.setCell ⟨w.heap.size, 1, none⟩ (.int .u64 ((min p.d 100000 : Nat) : Int))).setCell ⟨w.heap.size, 2, none⟩ (.int .u64 ((min p.s 100000 : Nat) : Int))).heap.size = w1.heap.size := by simp [World.setCell]
 have hT := TBuf.fresh w.heap.size ((w1.setCell ⟨w.heap.size, 1, none⟩ (.int .u64 ((min p.d 100000 : Nat) : Int))).setCell ⟨w.heap.size, 2, none⟩ (.int .u64 ((min p.s 100000 : Nat) : Int))) c p HP.out H16.out hM3.size
 rw [hsz] at hT
 exact ⟨_, _, _, rfl, hT, (hM3.alloc _).alloc _⟩
theorem tnew_none (c : Bool) (p : Pm) (hp : mayB p = false) (h16 : p.t.length = 16) (w : World) :
  Calls Tryz.prog 8 #[.bool c, .agg (pmC p)] w fun e w' => e = .returned (.pointer none) ∧ Mod (fun _ => False) w w' := by
 have HB := Lib.hid (PmB.new w p h16)
 have HM := Lib.hid (fun W => may_any h16 W)
 rw [hp] at HM
 unfold pmV at HM
 have H16 := Lib.hid h16
 have HS : Hid (∀ q : Pm, q.t.length = 16 → (Tryz.prog.info? 29).map (·.size) = some (pmC q).size) := Lib.hid (fun q hq => size25 q hq)
 clear hp h16
 go_enter Tryz.func8, Tryz.ntmps8
 go_wp2_with (first
  | ((with_reducible refine wpList_load_blk ?_ 29 (.tmp 3) ?_ w.heap.size ?_ (pmC p) 29 _ HB.out.blk Tryz.underlying29 ?_ (HS.out p H16.out) ?_); (· exact rfl); (· exact rfl); (· exact rfl); (· exact rfl))
  | (go_at_call 27; (with_reducible refine (HM.out _).mono ?_); rintro e w1 ⟨rfl, hm⟩; have HM1 := Lib.hid hm; clear hm)
  | fail)
 go_ret
 exact ⟨rfl, ((Mod.refl _ _).alloc _).trans HM1.out⟩
end Go.Proofs.YtolgeghdkoodnaaGreatDoor
set_option maxRecDepth 100000
namespace Go.Proofs.YtolgeghdkoodnaaGreatDoor
open Go.RowKit Go.Maps
def sumOn (f : Int → Nat) (l : List Int) : Nat := (l.map f).sum
theorem sumOn_snoc (f : Int → Nat) (l : List Int) (z : Int) : sumOn f (l ++ [z]) = sumOn f l + f z := by simp [sumOn]
theorem sumOn_perm (f : Int → Nat) {l m : List Int} (h : l.Perm m) : sumOn f l = sumOn f m := (h.map f).sum_nat
theorem sumOn_le (f : Int → Nat) (b : Nat) : ∀ (l : List Int), (∀ z ∈ l, f z ≤ b) → sumOn f l ≤ l.length * b
 | [], _ => by simp [sumOn]
 | z :: l, h => by
  have ih := sumOn_le f b l (fun y hy => h y (by simp [hy]))
  have h1 := h z (by simp)
  unfold sumOn at ih ⊢
  simp only [List.map_cons, List.sum_cons, List.length_cons, Nat.succ_mul]
  omega
def Come (dom : List Int) (left : Int → Bool) (ss : List Int) : Prop := ss.Nodup ∧ ∀ z, z ∈ ss ↔ (z ∈ dom ∧ left z = false)
theorem Come.start (dom : List Int) : Come dom (fun z => decide (z ∈ dom)) [] := ⟨List.nodup_nil, fun z => by simp⟩
theorem Come.step {dom : List Int} {left : Int → Bool} {ss : List Int} (h : Come dom left ss) {z : Int} (hl : left z = true) (hd : z ∈ dom) : Come dom (fun y => left y && !decide (y = z)) (ss ++ [z]) := by
 have hnew : z ∉ ss := fun hx => by have := ((h.2 z).1 hx).2; rw [hl] at this; cases this
 refine ⟨List.nodup_append.2 ⟨h.1, by simp, fun a ha b hb => by simp at hb; subst hb; exact fun e => hnew (e ▸ ha)⟩, fun y => ?_⟩
 by_cases hy : y = z
 ·subst hy; simp [hd]
 ·simp [h.2 y, hy]
theorem Come.perm {dom : List Int} {left : Int → Bool} {ss : List Int} (h : Come dom left ss) (hn : dom.Nodup) (hl : ∀ z, left z = false) : ss.Perm dom :=
 (List.perm_ext_iff_of_nodup h.1 hn).2 fun z => by rw [h.2 z, hl]; simp
theorem Come.len {dom : List Int} {left : Int → Bool} {ss : List Int} (h : Come dom left ss) : ss.length ≤ dom.length := h.1.length_le_of_subset (fun z hz => ((h.2 z).1 hz).1)
theorem IRange.dom {K : TypeId} {q : IntKind} {w : World} {mb r cnt : Nat} {dom : List Int} {f : Int → Value} {left : Int → Bool} (h : IRange K q w mb r dom f left cnt) : ∀ z, left z = true → z ∈ dom := by
 obtain ⟨D, L, _, _, _, _, h5⟩ := h
 exact h5
def topS (s : St) : Nat := (s.inn.map (fun o => o.top)).getD 0
def topsN (T : Tb) : Nat := sumOn (fun z => topS (T.m z)) T.dom
def givenN (T : Tb) : Nat := sumOn (fun z => (T.m z).given) T.dom
theorem tops_any {B : Nat} {w : World} {tb mb : Nat} {G : Int → SM} {T : Tb} (q : TBuf B w tb mb G T) (hl : T.dom.length ≤ 1000) (hb : ∀ z ∈ T.dom, topS (T.m z) ≤ 1000000) :
  Calls Tryz.prog 176 #[.pointer (some ⟨tb, 0, none⟩)] w fun e w' => e = .returned (.int .u64 (topsN T : Int)) ∧ Mod (fun _ => False) w w' := by
 have cm := q.mapc
 obtain ⟨w0, hr0, hrg0, hM0⟩ := q.map.range Tryz.underlying26 (t := 72) Tryz.underlying72
 have HQ := Lib.hid q
 have HR0 := Lib.hid hrg0
 have HM0 := Lib.hid hM0
 have HL := Lib.hid hl
 have HB := Lib.hid hb
 have HND := Lib.hid q.map.nodup
 have hr1 : w.heap.size < w0.heap.size := hrg0.ne.2
 clear q hl hb hrg0 hM0
 generalize hr : w.heap.size = r at *
 have HRR := Lib.hid hr
 clear hr
 go_enter Tryz.func176, Tryz.ntmps176
 go_wp2_with fail
 go_loopw [3] (fun s3 wr => ∃ (left : Int → Bool) (cnt : Nat) (ss : List Int), s3 = .int .u64 (sumOn (fun z => topS (T.m z)) ss : Int) ∧ Hid (IRange 26 .u64 wr mb r T.dom (fun z => .pointer (some ⟨(G z).sb, 0, none⟩)) left cnt ∧ Come T.dom left ss ∧ Mod (fun _ => False) w wr))
  (fun _ wr => wr.rangeLeft mb r)
 case atStart => exact ⟨_, _, [], rfl, Lib.hid ⟨HR0.out, Come.start _, HM0.out⟩⟩
 case round =>
  obtain ⟨left, cnt, ss, rfl, HI⟩ := hrel
  rcases HI.out.1.next Tryz.underlying26 0 with ⟨h0, hl0, hx⟩ | ⟨z, w2, cnt2, hlz, hx, hrg2, hlt, hM2, hsz, hen⟩
  ·have HP := Lib.hid (sumOn_perm (fun z => topS (T.m z)) (HI.out.2.1.perm HND.out hl0))
   clear hl0 h0
   rw [HP.out]
   go_wp2_with fail
   go_ret
   exact ⟨rfl, HI.out.2.2⟩
  ·have hzd := HI.out.1.dom z hlz
   have HC2 := Lib.hid (HI.out.2.1.step hlz hzd)
   have HMW : Hid (Mod (fun _ => False) w w2) := Lib.hid (HI.out.2.2.trans' hM2 (fun k hk e => by have := HRR.out; omega))
   have HRG := Lib.hid hrg2
   have HLT := Lib.hid (And.intro hlt HI.out.1.left_eq)
   have hs := (HQ.out.still HMW.out).strs z hzd
   have c1 : w2.cell? ⟨(G z).sb, 1, none⟩ = some (ptrI (G z).ib (T.m z).inn) := hs.blk.cellAt 1 rfl
   have hsum := sumOn_le (fun z => topS (T.m z)) 1000000 ss (fun y hy => HB.out y ((HI.out.2.1.2 y).1 hy).1)
   have hlen := HI.out.2.1.len
   have h1 := HB.out z hzd
   have u1 : IntKind.u64.wrap ((sumOn (fun z => topS (T.m z)) ss : Int) + (topS (T.m z) : Int)) = ((sumOn (fun z => topS (T.m z)) (ss ++ [z]) : Nat) : Int) := by
    rw [sumOn_snoc, IntWalk.u64_in _ (by have := HL.out; omega)]
    push_cast
    rfl
   have HT : Hid (topS (T.m z) = (((T.m z).inn.map (fun o => o.top)).getD 0)) := Lib.hid rfl
   cases hin : (T.m z).inn with
   | none =>
    rw [hin] at c1 HT
    have e0 : topS (T.m z) = 0 := HT.out
    rw [e0] at u1
    unfold ptrI at c1
    clear hs hsum hlen h1 e0 hzd hlz hlt hrg2 hM2
    generalize (sumOn (fun z => topS (T.m z)) ss : Int) = x at *
    obtain ⟨y, hy⟩ : ∃ y : Int, y = (sumOn (fun z => topS (T.m z)) (ss ++ [z]) : Int) := ⟨_, rfl⟩
    have u2 : IntKind.u64.wrap x = y := by rw [hy]; simpa using u1
    have HY := Lib.hid hy
    clear u1 hy
    go_wp2_with (first
     | (go_at_call 78; (with_reducible refine (itop_nil _).mono ?_); rintro e w3 ⟨rfl, rfl⟩)
     | fail)
    go_roundw
    case rel => exact ⟨_, cnt2, ss ++ [z], by rw [HY.out], Lib.hid ⟨HRG.out, HC2.out, HMW.out⟩⟩
    case measure => rw [HRG.out.left_eq, HLT.out.2]; exact HLT.out.1
   | some o =>
    rw [hin] at c1 HT
    have e0 : topS (T.m z) = o.top := HT.out
    rw [e0] at u1
    unfold ptrI at c1
    have HO := Lib.hid (itop_any (hs.inn o hin))
    clear hs hsum hlen h1 e0 hzd hlz hlt hrg2 hM2
    generalize (sumOn (fun z => topS (T.m z)) ss : Int) = x at *
    obtain ⟨y, hy⟩ : ∃ y : Int, y = (sumOn (fun z => topS (T.m z)) (ss ++ [z]) : Int) := ⟨_, rfl⟩
    rw [← hy] at u1
    have HY := Lib.hid hy
    clear hy
    generalize (o.top : Int) = t at *
    go_wp2_with (first
     | (go_at_call 78; (with_reducible refine HO.out.mono ?_); rintro e w3 ⟨rfl, rfl⟩)
     | fail)
    go_roundw
    case rel => exact ⟨_, cnt2, ss ++ [z], by rw [HY.out], Lib.hid ⟨HRG.out, HC2.out, HMW.out⟩⟩
    case measure => rw [HRG.out.left_eq, HLT.out.2]; exact HLT.out.1
theorem given_any {B : Nat} {w : World} {tb mb : Nat} {G : Int → SM} {T : Tb} (q : TBuf B w tb mb G T) (hl : T.dom.length ≤ 1000) (hb : ∀ z ∈ T.dom, (T.m z).given ≤ 1000000) :
  Calls Tryz.prog 70 #[.pointer (some ⟨tb, 0, none⟩)] w fun e w' => e = .returned (.int .u64 (givenN T : Int)) ∧ Mod (fun _ => False) w w' := by
 have cm := q.mapc
 obtain ⟨w0, hr0, hrg0, hM0⟩ := q.map.range Tryz.underlying26 (t := 72) Tryz.underlying72
 have HQ := Lib.hid q
 have HR0 := Lib.hid hrg0
 have HM0 := Lib.hid hM0
 have HL := Lib.hid hl
 have HB := Lib.hid hb
 have HND := Lib.hid q.map.nodup
 have hr1 : w.heap.size < w0.heap.size := hrg0.ne.2
 clear q hl hb hrg0 hM0
 generalize hr : w.heap.size = r at *
 have HRR := Lib.hid hr
 clear hr
 go_enter Tryz.func70, Tryz.ntmps70
 go_wp2_with fail
 go_loopw [3] (fun s3 wr => ∃ (left : Int → Bool) (cnt : Nat) (ss : List Int), s3 = .int .u64 (sumOn (fun z => (T.m z).given) ss : Int) ∧ Hid (IRange 26 .u64 wr mb r T.dom (fun z => .pointer (some ⟨(G z).sb, 0, none⟩)) left cnt ∧ Come T.dom left ss ∧ Mod (fun _ => False) w wr))
  (fun _ wr => wr.rangeLeft mb r)
 case atStart => exact ⟨_, _, [], rfl, Lib.hid ⟨HR0.out, Come.start _, HM0.out⟩⟩
 case round =>
  obtain ⟨left, cnt, ss, rfl, HI⟩ := hrel
  rcases HI.out.1.next Tryz.underlying26 0 with ⟨h0, hl0, hx⟩ | ⟨z, w2, cnt2, hlz, hx, hrg2, hlt, hM2, hsz, hen⟩
  ·have HP := Lib.hid (sumOn_perm (fun z => (T.m z).given) (HI.out.2.1.perm HND.out hl0))
   clear hl0 h0
   rw [HP.out]
   go_wp2_with fail
   go_ret
   exact ⟨rfl, HI.out.2.2⟩
  ·have hzd := HI.out.1.dom z hlz
   have HC2 := Lib.hid (HI.out.2.1.step hlz hzd)
   have HMW : Hid (Mod (fun _ => False) w w2) := Lib.hid (HI.out.2.2.trans' hM2 (fun k hk e => by have := HRR.out; omega))
   have HRG := Lib.hid hrg2
   have HLT := Lib.hid (And.intro hlt HI.out.1.left_eq)
   have hs := (HQ.out.still HMW.out).strs z hzd
   have c1 : w2.cell? ⟨(G z).sb, 3, none⟩ = some (.int .u64 ((T.m z).given : Int)) := hs.blk.cellAt 3 rfl
   have hsum := sumOn_le (fun z => (T.m z).given) 1000000 ss (fun y hy => HB.out y ((HI.out.2.1.2 y).1 hy).1)
   have hlen := HI.out.2.1.len
   have h1 := HB.out z hzd
   have u1 : IntKind.u64.wrap ((sumOn (fun z => (T.m z).given) ss : Int) + ((T.m z).given : Int)) = ((sumOn (fun z => (T.m z).given) (ss ++ [z]) : Nat) : Int) := by
    rw [sumOn_snoc, IntWalk.u64_in _ (by have := HL.out; omega)]
    push_cast
    rfl
   clear hs hsum hlen h1 hzd hlz hlt hrg2 hM2
   generalize (sumOn (fun z => (T.m z).given) ss : Int) = x at *
   obtain ⟨y, hy⟩ : ∃ y : Int, y = (sumOn (fun z => (T.m z).given) (ss ++ [z]) : Int) := ⟨_, rfl⟩
   rw [← hy] at u1
   have HY := Lib.hid hy
   clear hy
   generalize ((T.m z).given : Int) = t at *
   go_wp2_with fail
   go_roundw
   case rel => exact ⟨_, cnt2, ss ++ [z], by rw [HY.out], Lib.hid ⟨HRG.out, HC2.out, HMW.out⟩⟩
   case measure => rw [HRG.out.left_eq, HLT.out.2]; exact HLT.out.1
end Go.Proofs.YtolgeghdkoodnaaGreatDoor
