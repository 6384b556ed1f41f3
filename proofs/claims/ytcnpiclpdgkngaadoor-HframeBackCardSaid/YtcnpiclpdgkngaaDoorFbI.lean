/- The walk of the law that two sections, one behind the other, are that of both. -/
import Derived.Test.YtcnpiclpdgkngaaDoorFbB
import Derived.Test.YtcnpiclpdgkngaaDoorFbG
import Derived.Test.YtcnpiclpdgkngaaDoorFbH
namespace Go.Proofs.YtcnpiclpdgkngaaDoor
open Go.RowKit

theorem own_noneF (w : World) : OwnF (w.alloc (.cells #[] 52)) w.heap.size (.slice (some ⟨w.heap.size, 0, none⟩) 0 0) [] :=
  ⟨rfl, .inr ⟨w.heap.size, 0, #[], rfl, Nat.le_refl _, heap_alloc_new w _, Nat.le_refl _, by simp [maxLen], rfl, rfl⟩⟩
theorem ownF_grown {w0 w w' : World} {B : Nat} {v : Value} {l : List Fd} (hM : Mod (fun _ => False) w0 w) (hg : w.grownBy w' v.ownBlock) (ho : OwnF w B v l) (hB : w0.heap.size ≤ B) : Mod (fun _ => False) w0 w' :=
  hM.grown hg (fun k hk hlt => by have := (World.ownsRow.lt ho k hk).1; omega)
theorem own_two {w : World} {B B' : Nat} {v v' : Value} {l : List Fd} {l' : List UInt8} (h : OwnF w B v l) (h' : OwnB w B' v' l') : ∀ g, v.ownBlock = some g → ¬ v'.ownBlock = some g := by
  intro g hg e
  rcases h'.2 with ⟨rfl, _⟩ | ⟨g', cap, cur, rfl, _, hg', _⟩
  · simp [Value.ownBlock] at e
  · simp [Value.ownBlock] at e
    subst e
    exact h.apart (show Blk w g' cur 5 from hg') (by decide) hg
set_option maxHeartbeats 8000000 in
set_option maxRecDepth 10000 in
theorem joins_any {w : World} {va vb : Value} {l m : List Fd} (hT : Tabs w) (hU : UTabs w) (hl : FldV w va l) (hm : FldV w vb m) (hbl : FdsMem l) (hbm : FdsMem m) :
    Calls Tryd.prog 8 #[va, vb] w fun e w' => e = .returned (.bool true) ∧ Below w.heap.size w w' := by
  have HT := Lib.hid (fun (X : World) (h : Mod (fun _ => False) w X) => h.tabs hT (fun h => h))
  have HU := Lib.hid (fun (X : World) (h : Mod (fun _ => False) w X) => hU.kept h)
  have HAL := Lib.hid (alive_any w hT hU)
  have HL := Lib.hid hl
  have HM := Lib.hid hm
  have HG1 := Lib.hid (fun (X : World) (h : Mod (fun _ => False) w X) => great_any (hl.kept h) hbl)
  have HG2 := Lib.hid (fun (X : World) (h : Mod (fun _ => False) w X) => great_any (hm.kept h) hbm)
  obtain ⟨a, ca, rfl, _⟩ := fld_val hl
  obtain ⟨b, cb, rfl, _⟩ := fld_val hm
  obtain ⟨nl, hnl⟩ : ∃ n, n = l.length := ⟨_, rfl⟩
  obtain ⟨nm, hnm⟩ : ∃ n, n = m.length := ⟨_, rfl⟩
  rw [← hnl] at HG1 ⊢
  rw [← hnm] at HG2 ⊢
  have HNL := Lib.hid hnl
  have HNM := Lib.hid hnm
  have HLX : Hid (∀ X, Mod (fun _ => False) w X → FldV X (.slice a nl ca) l) := fun X h => by have := hl.kept h; rw [← hnl] at this; exact this
  have HMX : Hid (∀ X, Mod (fun _ => False) w X → FldV X (.slice b nm cb) m) := fun X h => by have := hm.kept h; rw [← hnm] at this; exact this
  clear hT hU hl hm hbl hbm hnl hnm
  go_enter Tryd.func8, Tryd.ntmps8
  go_wp2_with fail
  refine (HAL.out).mono ?_
  rintro e w1 ⟨rfl, hM1⟩
  have HM1 := Lib.hid hM1
  clear hM1 HAL
  go_wp2_with fail
  refine (HG1.out _ HM1.out).mono ?_
  rintro e w2 ⟨g1, rfl, hg1, hM2⟩
  have HM2 := Lib.hid (HM1.out.trans hM2)
  have HO1 := Lib.hid hg1
  clear hM2 HM1 HG1 hg1
  cases g1
  case true =>
    go_wp2_with fail
    go_ret
    exact ⟨rfl, HM2.out.none_below⟩
  have HQ1 : Hid (FdsOk l ∧ (l.length : Int) ≤ 200) := HO1.out rfl
  clear HO1
  go_wp2_with fail
  refine (HG2.out _ HM2.out).mono ?_
  rintro e w3 ⟨g2, rfl, hg2, hM3⟩
  have HM3 := Lib.hid (HM2.out.trans hM3)
  have HO2 := Lib.hid hg2
  clear hM3 HM2 HG2 hg2
  cases g2
  case true =>
    go_wp2_with fail
    go_ret
    exact ⟨rfl, HM3.out.none_below⟩
  have HQ2 : Hid (FdsOk m ∧ (m.length : Int) ≤ 200) := HO2.out rfl
  clear HO2
  have hl2 : (nl : Int) ≤ 200 := by have := HQ1.out.2; have := HNL.out; omega
  have hm2 : (nm : Int) ≤ 200 := by have := HQ2.out.2; have := HNM.out; omega
  go_wp2_with fail
  refine (flds_any (HU.out _ HM3.out) (HLX.out _ HM3.out) (by have := HNL.out; omega) HQ1.out.1).mono ?_
  rintro e w4 ⟨rfl, hM4⟩
  have HM4 := Lib.hid (HM3.out.trans hM4)
  clear hM4 HM3
  generalize hfl : fieldsB l = fl at *
  cases fl
  case false =>
    go_wp2_with fail
    go_ret
    exact ⟨rfl, HM4.out.none_below⟩
  have HFL := Lib.hid hfl
  clear hfl
  go_wp2_with fail
  refine (flds_any (HU.out _ HM4.out) (HMX.out _ HM4.out) (by have := HNM.out; omega) HQ2.out.1).mono ?_
  rintro e w5 ⟨rfl, hM5⟩
  have HM5 := Lib.hid (HM4.out.trans hM5)
  clear hM5 HM4
  generalize hfm : fieldsB m = fm at *
  cases fm
  case false =>
    go_wp2_with fail
    go_ret
    exact ⟨rfl, HM5.out.none_below⟩
  have HFM := Lib.hid hfm
  clear hfm
  have hl3 : (nl : Int) ≤ 32 := by have := (fds_good HFL.out).1; have := HNL.out; omega
  have hm3 : (nm : Int) ≤ 32 := by have := (fds_good HFM.out).1; have := HNM.out; omega
  obtain ⟨N, hN⟩ : ∃ N, N = nl + nm := ⟨_, rfl⟩
  have hN2 : (N : Int) ≤ 64 := by omega
  have HNN := Lib.hid hN
  clear hN
  obtain ⟨A, hA⟩ : ∃ A, A = l ++ m := ⟨_, rfl⟩
  have HA := Lib.hid hA
  clear hA
  obtain ⟨P1, hP1⟩ : ∃ P, packL l = P := ⟨_, rfl⟩
  obtain ⟨P2, hP2⟩ : ∃ P, packL m = P := ⟨_, rfl⟩
  have HP1 := Lib.hid hP1
  have HP2 := Lib.hid hP2
  have hz1 := pack_size HFL.out
  have hz2 := pack_size HFM.out
  rw [hP1] at hz1
  rw [hP2] at hz2
  clear hP1 hP2
  obtain ⟨p1, hp1⟩ : ∃ p, P1.length = p := ⟨_, rfl⟩
  obtain ⟨p2, hp2⟩ : ∃ p, P2.length = p := ⟨_, rfl⟩
  obtain ⟨p3, hp3⟩ : ∃ p, p = p1 + p2 := ⟨_, rfl⟩
  have hq3 : (p3 : Int) ≤ 20000 := by omega
  have HLP1 := Lib.hid hp1
  have HLP2 := Lib.hid hp2
  have HLP3 := Lib.hid hp3
  clear hz1 hz2 hp1 hp2 hp3
  have HM6 := Lib.hid (HM5.out.alloc (.cells #[] 52))
  have HL6 := Lib.hid (HLX.out _ HM6.out)
  have HO6 := Lib.hid (own_noneF w5)
  have HZ6 : Hid (w5.heap.size ≤ (w5.alloc (.cells #[] 52)).heap.size) := by show _ ≤ _; simp
  go_wp2_with (first
    | ((with_reducible refine wpList_append_f ?_ (.tmp 27) (.tmp 28) ?_ (.slice (some ⟨w5.heap.size, 0, none⟩) 0 0) [] w5.heap.size ?_ HO6.out (.slice a nl ca) l ?_ HL6.out nl ?_ ?_ HZ6.out l ?_ ?_); (· exact rfl); (· exact rfl); (· exact rfl); (· exact rfl); (· have := HNL.out; simp; omega); (· omega); (· exact rfl); intro a7 c7 w7 ho7 hg7; have HM7 := Lib.hid (ownF_grown HM6.out hg7 HO6.out HM5.out.size); have HM57 := Lib.hid (ownF_grown ((Mod.refl (fun _ => False) w5).alloc (.cells #[] 52)) hg7 HO6.out (Nat.le_refl _)); have HO7 := Lib.hid ho7; have HX7 := Lib.hid (HMX.out _ HM7.out); clear ho7 hg7)
    | ((with_reducible refine wpList_append_f ?_ (.tmp 29) (.tmp 30) ?_ (.slice a7 nl c7) l w5.heap.size ?_ HO7.out (.slice b nm cb) m ?_ HX7.out N ?_ ?_ HM57.out.size A HA.out ?_); (· exact rfl); (· exact rfl); (· exact rfl); (· exact rfl); (· have := HNL.out; have := HNM.out; have := HNN.out; omega); (· omega); intro a8 c8 w8 ho8 hg8; have HM8 := Lib.hid (ownF_grown HM7.out hg8 HO7.out HM5.out.size); have HO8 := Lib.hid ho8; clear ho8 hg8)
    | fail)
  refine (pack_c (HT.out _ HM8.out) (HU.out _ HM8.out) (HLX.out _ HM8.out) (by have := HNL.out; omega) HQ1.out.1 HP1.out HLP1.out).mono ?_
  rintro e w9 ⟨a9, c9, rfl, ho9, hM9⟩
  have HM9 := Lib.hid (HM8.out.trans hM9)
  have HQ9 := Lib.hid (ho9.mono HM8.out.size)
  have HA9 := Lib.hid (HO8.out.kept hM9 (fun _ _ h => h))
  clear ho9 hM9 HM6 HL6 HO6 HZ6 HM7 HM57 HO7 HX7 HM8 HO8 HM5
  go_wp2_with fail
  refine (pack_c (HT.out _ HM9.out) (HU.out _ HM9.out) (HMX.out _ HM9.out) (by have := HNM.out; omega) HQ2.out.1 HP2.out HLP2.out).mono ?_
  rintro e w10 ⟨a10, c10, rfl, ho10, hM10⟩
  have HM10 := Lib.hid (HM9.out.trans hM10)
  have HQ10 := Lib.hid (HQ9.out.keptF hM10)
  have HA10 := Lib.hid (HA9.out.kept hM10 (fun _ _ h => h))
  have HB10 := Lib.hid ho10.byts
  obtain ⟨P3, hP3⟩ : ∃ P, P = P1 ++ P2 := ⟨_, rfl⟩
  have HP3 := Lib.hid hP3
  clear ho10 hM10 HM9 HQ9 HA9 hP3
  go_wp2_with (first
    | ((with_reducible refine wpList_append_b ?_ (.tmp 33) (.tmp 35) ?_ (.slice a9 p1 c9) P1 w.heap.size p3 ?_ HQ10.out (.slice a10 p2 c10) P2 ?_ HB10.out P3 HP3.out ?_ ?_ HM10.out.size ?_); (· exact rfl); (· exact rfl); (· exact rfl); (· exact rfl); (· have := HLP1.out; have := HLP2.out; have := HLP3.out; omega); (· omega); intro a11 c11 w11 hA11; have HM11 := Lib.hid (hA11.modF HM10.out (Nat.le_refl _)); have HA11 := Lib.hid (HA10.out.kept (hA11.mod (w0 := w10) (S := fun j => (Value.slice a9 p1 c9).ownBlock = some j) (Mod.refl _ _) (fun g hg _ => hg)) (own_two HA10.out HQ10.out)); have HB11 := Lib.hid hA11.byts; clear hA11)
    | fail)
  have HLP : Hid ((P3.length : Int) ≤ 100000) := by show _ ≤ _; rw [HP3.out, List.length_append]; have := HLP1.out; have := HLP2.out; have := HLP3.out; omega
  have HUJ := Lib.hid (unpack_join HFL.out HFM.out)
  rw [HP1.out, HP2.out, ← HP3.out, ← HA.out, ← HNL.out, ← HNM.out, ← HNN.out] at HUJ
  have HLA : Hid (A.length = N) := by show _ = _; rw [HA.out, List.length_append, ← HNL.out, ← HNM.out]; exact HNN.out.symm
  by_cases h32 : (N : Int) ≤ 32
  · rw [if_pos (by omega)] at HUJ
    refine (unpack_c N HLA.out (HU.out _ HM11.out) HB11.out HLP.out HUJ.out).mono ?_
    rintro e w12 ⟨a12, c12, rfl, hf12, hM12⟩
    have HM12 := Lib.hid (HM11.out.trans hM12)
    have HF12 := Lib.hid hf12
    have HA12 := Lib.hid (HA11.out.fldv.kept hM12)
    have HB12 := Lib.hid (byts_kept HB11.out hM12)
    clear hf12 hM12 HM11 HA11 HB11
    go_wp2_with fail
    refine (list_any HF12.out HA12.out (by have := HLA.out; omega)).mono ?_
    rintro e w13 ⟨rfl, hM13⟩
    have HM13 := Lib.hid (HM12.out.trans hM13)
    have HA13 := Lib.hid (HA12.out.kept hM13)
    have HB13 := Lib.hid (byts_kept HB12.out hM13)
    have HFJ := Lib.hid (fields_join HFL.out HFM.out (by have := HNL.out; have := HNM.out; have := HNN.out; omega))
    rw [HP1.out, HP2.out, ← HP3.out, ← HA.out] at HFJ
    have HOK : Hid (FdsOk A) := by
      show FdsOk A
      intro f hf
      have := (fds_good HFJ.out.1).2 f hf
      omega
    clear hM13 HM12 HF12 HA12 HB12
    go_wp2_with fail
    refine (pack_c (HT.out _ HM13.out) (HU.out _ HM13.out) HA13.out (by have := HLA.out; omega) HOK.out HFJ.out.2 rfl).mono ?_
    rintro e w14 ⟨a14, c14, rfl, ho14, hM14⟩
    have HM14 := Lib.hid (HM13.out.trans hM14)
    have HB14 := Lib.hid (byts_kept HB13.out hM14)
    have HC14 := Lib.hid ho14.byts
    clear ho14 hM14 HM13 HA13 HB13
    go_wp2_with fail
    refine (same_c HB14.out HC14.out).mono ?_
    rintro e w15 ⟨rfl, hM15⟩
    rw [show decide (P3 = P3) = true by simp]
    have HM15 := Lib.hid (HM14.out.trans hM15)
    clear hM15
    go_wp2_with fail
    go_ret
    exact ⟨rfl, HM15.out.none_below⟩
  · rw [if_neg (by omega)] at HUJ
    refine (unpack_c 0 rfl (HU.out _ HM11.out) HB11.out HLP.out HUJ.out).mono ?_
    rintro e w12 ⟨a12, c12, rfl, hf12, hM12⟩
    have HM12 := Lib.hid (HM11.out.trans hM12)
    clear hf12 hM12 HM11 HA11 HB11
    go_wp2_with fail
    go_ret
    exact ⟨rfl, HM12.out.none_below⟩
end Go.Proofs.YtcnpiclpdgkngaaDoor
