/- The walk of the law on integers one behind the other. -/
import Derived.Test.YtbkalloadlaloaaDoorLawA
import Derived.Test.YtbkalloadlaloaaDoorPlainB
import Derived.Test.YtbkalloadlaloaaDoorLaw
namespace Go.Proofs.YtbkalloadlaloaaDoor
open Go.RowKit Go.ChangeShapes Go.WideShapes

/-- A number as a value. -/
def uv (n : Nat) : Value := .int .u64 (n : Int)
def Ints (w : World) (v : Value) (l : List Nat) : Prop := Sl w 1 v l.length (l.map uv)
theorem uv_of {z : Int} (h : 0 ≤ z) : uv z.toNat = .int .u64 z := by
  unfold uv; congr 1; omega
theorem ints_val {w : World} {v : Value} {l : List Nat} (h : Ints w v l) : ∃ a cap, v = .slice a l.length cap ∧ l.length ≤ cap ∧ cap ≤ maxLen ∧ (a = none → cap = 0) := Sl.val h
theorem ints_addr {w : World} {v : Value} {l : List Nat} (h : Ints w v l) (hx : l ≠ []) :
    ∃ b off cap, v = .slice (some ⟨b, off, none⟩) l.length cap ∧ l.length ≤ cap ∧ cap ≤ maxLen ∧ ∀ j x, l[j]? = some x → w.cell? ⟨b, off + j, none⟩ = some (uv x) := by
  obtain ⟨b, off, cap, h1, h2, h3, h4⟩ := Sl.addr h (by simpa using hx)
  exact ⟨b, off, cap, h1, h2, h3, fun j x hj => h4 j (uv x) (by simp [hj])⟩
/-- A slice of numbers that came in. -/
theorem open_u64s {H : Type} {enc : TypeId × Value → H} {W : World} {v : Value} {d : DataW H} {p : List MemPlace} {base : Nat} (hval : Value.okWide Tryd.prog W .any base 45 v)
    (h : DataW.Trod enc Tryd.prog W 0 (fun _ => true) true 45 v d p) :
    ∃ l : List Nat, Ints W v l ∧ (d = .nil ∧ l = [] ∨ ∃ es sp, d = .slice es sp ∧ l.length ≤ es.length + sp.length) := by
  obtain ⟨a0, len, cap, rfl⟩ := okWide_slice Tryd.underlying45 hval
  obtain ⟨fuel, hf⟩ := h
  rcases open_ints Tryd.underlying45 Tryd.underlying22 (by kernel_rfl) hf with ⟨hcs, hx⟩ | ⟨a, len', cap', zs, hcs, _, hl, hm, hz, hx, hcell, hwz⟩
  · simp [Value.cells] at hcs
    obtain ⟨rfl, rfl, rfl⟩ := hcs
    simp only [Prod.mk.injEq] at hx
    exact ⟨[], Sl.nil _ _, .inl ⟨hx.1, rfl⟩⟩
  · simp [Value.cells] at hcs
    obtain ⟨rfl, rfl, rfl⟩ := hcs
    simp only [Prod.mk.injEq] at hx
    simp at hz
    have hwf : ∀ z ∈ zs, 0 ≤ z := fun z hz => (bounds_u64 (hwz z hz)).1
    have hlen : ((zs.take len).map (fun z => z.toNat)).length = len := by simp; omega
    refine ⟨(zs.take len).map (fun z => z.toNat), ?_, .inr ⟨_, _, hx.1, by simp [lits]⟩⟩
    refine ⟨by simp, some a, cap, by rw [hlen], by rw [hlen]; omega, hm, fun h => by simp at h, fun j u hu => ?_⟩
    have hj : j < len := by
      have := (List.getElem?_eq_some_iff.1 hu).1
      rw [List.length_map, hlen] at this
      exact this
    have ha : a.spot = none := by
      have := hcell 0 (by omega)
      unfold Addr.add at this
      simp only [if_true] at this
      cases hs : a.spot with
      | none => rfl
      | some x =>
        exfalso
        unfold World.cell? at this
        rw [hs] at this
        split at this <;> simp at this
    refine ⟨a.block, a.off, ?_, ?_⟩
    · cases a; simp_all
    · have hc := hcell j (by omega)
      have e : a.add j = ⟨a.block, a.off + j, none⟩ := by
        unfold Addr.add
        split
        · subst_vars; cases a; simp_all
        · rfl
      rw [e] at hc
      rw [hc]
      have hjz : j < zs.length := by omega
      have : ((zs.take len).map (fun z => z.toNat)).map uv = (zs.take len).map (Value.int .u64) := by
        rw [List.map_map]
        apply List.map_congr_left
        intro z hz
        exact uv_of (hwf z (List.mem_of_mem_take hz))
      rw [this] at hu
      rw [List.getElem?_map, List.getElem?_take, if_pos hj] at hu
      rw [← hu]
      simp [List.getD, hjz]

/-- All their bytes. -/
def puts (l : List Nat) : List UInt8 := (l.map putL).flatten
theorem puts_snoc (l : List Nat) (n : Nat) : puts (l ++ [n]) = puts l ++ putL n := by simp [puts]
theorem puts_le (l : List Nat) : (puts l).length ≤ 8 * l.length := by
  induction l with
  | nil => simp [puts]
  | cons n l ih =>
    have := putL_length n
    have := szN_le n
    have e : puts (n :: l) = putL n ++ puts l := by simp [puts]
    rw [e, List.length_append, List.length_cons]
    omega

set_option maxHeartbeats 1000000 in
set_option maxRecDepth 10000 in
theorem many_long (l : List Nat) (v : Value) (w : World) (hT : Tabs w) (hb : Ints w v l) (hl : (60 : Int) < l.length) :
    Calls Tryd.prog 7 #[v] w fun e w' => e = .returned (.bool true) ∧ Below w.heap.size w w' := by
  have HT := Lib.hid hT
  obtain ⟨a, cap, rfl, _⟩ := ints_val hb
  clear hT hb
  go_enter Tryd.func7, Tryd.ntmps7
  go_wp2_with fail
  refine (alive_any _ HT.out).mono ?_
  rintro e w1 ⟨rfl, hM1⟩
  go_wp2_with fail
  go_ret
  exact ⟨rfl, hM1.none_below⟩

set_option maxHeartbeats 2000000 in
set_option maxRecDepth 10000 in
theorem many_some (l : List Nat) (v : Value) (w : World) (hT : Tabs w) (hb : Ints w v l) (hl : (l.length : Int) ≤ 60) (h0 : l ≠ []) :
    Calls Tryd.prog 7 #[v] w fun e w' => e = .returned (.bool true) ∧ Below w.heap.size w w' := by
  have HT := Lib.hid hT
  have HB := Lib.hid hb
  obtain ⟨b, off, cap, rfl, _, _, hc⟩ := ints_addr hb h0
  obtain ⟨m, hm⟩ : ∃ m, m = l.length := ⟨_, rfl⟩
  rw [← hm] at hl ⊢
  have HM := Lib.hid hm
  have HC := Lib.hid hc
  obtain ⟨i0, hi, hz0, hz1, hz2⟩ := info_parts Tryd.info5
  clear hT hb hm hc h0
  go_enter Tryd.func7, Tryd.ntmps7
  go_wp2_with fail
  refine (alive_any _ HT.out).mono ?_
  rintro e w1 ⟨rfl, hM1⟩
  go_wp2_with fail
  go_loopw [3, 4] (fun bv i wr => ∃ k : Nat, k ≤ m ∧ i = .int .i64 k ∧ OwnB wr w1.heap.size bv (puts (l.take k)) ∧ Mod (fun _ => False) w1 wr) (fun _ i _ => m - (intOf i).toNat)
  case atStart => exact ⟨0, Nat.zero_le _, rfl, OwnB.nil _ _, Mod.refl _ _⟩
  case round =>
    obtain ⟨k, hk, rfl, ho, hM⟩ := hrel
    obtain ⟨ab, cb, rfl, _⟩ := byts_val ho.byts
    by_cases hlt : (k : Int) < m
    · have hkl : k < l.length := by have := HM.out; omega
      have e1 : l[k]? = some l[k] := List.getElem?_eq_getElem hkl
      have g1 : wr.cell? ⟨b, off + k, none⟩ = some (uv l[k]) := (hM1.trans hM).cellAt (HC.out k _ e1) (fun h => h)
      have hsn := take_snoc l k _ e1
      have hle : (puts (l.take k)).length ≤ 480 := by
        have := puts_le (l.take k); rw [List.length_take] at this; omega
      generalize l[k] = x at *
      unfold uv at g1
      have HSN := Lib.hid hsn
      have HP := Lib.hid (put_any x wr ((hM1.trans hM).tabs HT.out (fun h => h)))
      have HOwn : Hid (OwnB wr w1.heap.size (.slice ab (puts (l.take k)).length cb) (puts (l.take k))) := ho
      have HPX := Lib.hid (putL_length x)
      have hz8 := szN_le x
      have hsize := hM.size
      clear e1 hkl hsn ho
      go_wp2_with (first | (go_at_call 12; refine (HP.out).mono ?_; rintro e w2 ⟨v2, rfl, ho2, hM2⟩; have HO2 := Lib.hid ho2; have hsz2 := hM2.size; clear ho2) | (at_builtin; go_must (refine wpList_append_sl rfl _ _ 26 rfl w1.heap.size 5 i0 (.int .u8 0) 1 1 Tryd.underlying26 hi hz0 hz1 hz2 rfl (by decide) _ _ _ rfl (hM2.own HOwn.out (fun _ _ h => h)) _ _ _ rfl HO2.out.byts (bv_one _) (by have := HPX.out; omega) (by decide) (by omega) ?_); intro v' w3 hown hgrow))
      go_roundw
      case rel =>
        refine ⟨k + 1, by omega, by go_num, ?_, (hM.trans hM2).grown hgrow (fun j hj hlt' => by have := (HOwn.out.lt j hj).1; omega)⟩
        rw [HSN.out, puts_snoc]
        unfold OwnB
        rw [List.map_append, List.length_append]
        exact hown
      case measure => simp [intOf]; omega
    · obtain rfl : k = m := by omega
      have hto : puts (l.take k) = puts l := by rw [List.take_of_length_le (by have := HM.out; omega)]
      rw [hto] at ho ⊢
      have hle : (puts l).length ≤ 480 := by have := puts_le l; have := HM.out; omega
      have HOwn := Lib.hid ho
      have HLE : Hid (((puts l).length : Int) ≤ 140737488355328) := by show _ ≤ _; omega
      clear ho hto hle
      go_wp2_with (go_at_call 22; refine (read_any HOwn.out.byts HLE.out).mono ?_; rintro e w2 ⟨rb, rfl, hrb, hr, hM2⟩)
      have hM02 := (hM1.trans hM).trans hM2
      have hrb' : w.heap.size ≤ rb := by have := (hM1.trans hM).size; omega
      clear hrb
      obtain ⟨wo, rfl⟩ : ∃ wo : World, wo = w2 := ⟨_, rfl⟩
      go_loopw [6] (fun i wr => ∃ j : Nat, j ≤ k ∧ i = .int .i64 j ∧ Rdr wr rb ⟨puts (l.drop j), 0⟩ ∧ Mod (fun i => i = rb) wo wr) (fun i _ => k - (intOf i).toNat)
      case atStart => exact ⟨0, Nat.zero_le _, rfl, hr, Mod.refl _ _⟩
      case round =>
        clear hr hM HOwn
        obtain ⟨j, hj, rfl, hr, hM⟩ := hrel
        by_cases hlt2 : (j : Int) < k
        · have hkl : j < l.length := by have := HM.out; omega
          have e1 : l[j]? = some l[j] := List.getElem?_eq_getElem hkl
          have g0 : wo.cell? ⟨b, off + j, none⟩ = some (uv l[j]) := hM02.cellAt (HC.out j _ e1) (fun h => h)
          have hdrop : l.drop j = l[j] :: l.drop (j + 1) := List.drop_eq_getElem_cons hkl
          have hbw : b ≠ rb := by
            have := block_lt_of_cell (HC.out j _ e1)
            simp only at this
            omega
          generalize l[j] = x at *
          have hp : puts (l.drop j) = putL x ++ puts (l.drop (j + 1)) := by rw [hdrop]; simp [puts]
          rw [hp] at hr
          have g1 : wr.cell? ⟨b, off + j, none⟩ = some (uv x) := hM.cellAt g0 (fun e => hbw e)
          unfold uv at g0 g1
          have HG0 := Lib.hid g0
          have HBW := Lib.hid hbw
          clear e1 hkl hdrop hp g0 hbw
          by_cases hx : x < 4611686018427387904
          · have hI := int_putL x (puts (l.drop (j + 1))) hx
            have hz : (0 : Int) < szN x := by rcases szN_cases x with h | h | h | h | h <;> omega
            have HI : Hid (∀ w', Rdr w' rb ⟨putL x ++ puts (l.drop (j + 1)), 0⟩ → Calls Tryd.prog 19 #[.pointer (some ⟨rb, 0, none⟩)] w' fun y w'' => y = .returned (.int .u64 (x : Int)) ∧ Rdr w'' rb ⟨puts (l.drop (j + 1)), 0⟩ ∧ Mod (fun k => k = rb) w' w'') := by
              intro w' h'
              have := int_any h'
              rw [hI] at this
              exact this
            have HSZ := Lib.hid (size_any x)
            have HR := Lib.hid hr
            generalize szN x = z at *
            have hzd : decide (0 < z) = true := decide_eq_true (by omega)
            clear hI hx hr hz
            go_wp2_with fail
            go_region_with (first | (go_at_call 9; refine (HSZ.out _).mono ?_; rintro e w' ⟨rfl, rfl⟩) | (go_at_call 19; refine (HI.out wr.drew (HR.out.heap rfl)).mono ?_; rintro e w5 ⟨rfl, hr5, hM5⟩; have g5 := ((hM.drew).trans hM5).cellAt HG0.out (fun e => HBW.out e)))
            all_goals go_wp2
            all_goals
              go_roundw
              case rel => exact ⟨j + 1, by omega, by go_num, hr5, (hM.drew).trans hM5⟩
              case measure => simp [intOf]; omega
          · have hz : szN x = 0 := by rcases szN_cases x with h | h | h | h | h <;> omega
            have hp : putL x = [] := putL_none x (by omega)
            have HSZ := Lib.hid (size_any x)
            rw [hp, List.nil_append] at hr
            rw [hz] at HSZ
            have HR := Lib.hid hr
            clear hp hz hr hx
            go_wp2_with fail
            go_quiet ((go_at_call 9; exact Calls.quiet_of_same ((HSZ.out _).mono fun e w' h => ⟨h.2, h.1.symm⟩)))
            go_wp2
            go_roundw
            case rel => exact ⟨j + 1, by omega, by go_num, HR.out.heap rfl, hM.drewN _⟩
            case measure => simp [intOf]; omega
        · obtain rfl : j = k := by omega
          have hd : puts (l.drop j) = [] := by rw [List.drop_of_length_le (by have := HM.out; omega)]; rfl
          rw [hd] at hr
          have HL := Lib.hid (left_any hr)
          have HBad := Lib.hid (bad_any hr)
          clear hr hd
          go_wp2_with (first | (go_at_call 18; refine (HL.out).mono ?_; rintro e w' ⟨rfl, rfl⟩) | (go_at_call 17; refine (HBad.out).mono ?_; rintro e w' ⟨rfl, rfl⟩))
          go_ret
          refine ⟨rfl, ?_⟩
          exact ((hM02.mono (fun _ _ h => h.elim) : Mod (fun i => w.heap.size ≤ i) w wo).trans' hM (fun i hi e => by have e' : i = rb := e; omega)).below (Nat.le_refl _) (fun _ _ h => h)
theorem many_nil (v : Value) (w : World) (hT : Tabs w) (hb : Ints w v []) :
    Calls Tryd.prog 7 #[v] w fun e w' => e = .returned (.bool true) ∧ Below w.heap.size w w' := by
  have HT := Lib.hid hT
  obtain ⟨a, cap, rfl, _⟩ := ints_val hb
  clear hT hb
  simp only [List.length_nil]
  go_enter Tryd.func7, Tryd.ntmps7
  go_wp2_with fail
  refine (alive_any _ HT.out).mono ?_
  rintro e w1 ⟨rfl, hM1⟩
  go_wp2_with fail
  refine wp_loop_rounds 1 ?_
  rw [rounds_succ]
  go_wp2_with (go_at_call 22; refine (read_any (l := []) (Sl.nil _ _) (by decide)).mono ?_; rintro e w2 ⟨rb, rfl, hrb, hr, hM2⟩)
  refine wp_loop_rounds 1 ?_
  rw [rounds_succ]
  have HL := Lib.hid (left_any hr)
  have HBad := Lib.hid (bad_any hr)
  go_wp2_with (first | (go_at_call 18; refine (HL.out).mono ?_; rintro e w' ⟨rfl, rfl⟩) | (go_at_call 17; refine (HBad.out).mono ?_; rintro e w' ⟨rfl, rfl⟩))
  go_ret
  exact ⟨rfl, (hM1.trans hM2).none_below⟩
theorem many_any (l : List Nat) (v : Value) (w : World) (hT : Tabs w) (hb : Ints w v l) :
    Calls Tryd.prog 7 #[v] w fun e w' => e = .returned (.bool true) ∧ Below w.heap.size w w' := by
  by_cases hl : (60 : Int) < l.length
  · exact many_long l v w hT hb hl
  · by_cases h0 : l = []
    · subst h0; exact many_nil v w hT hb
    · exact many_some l v w hT hb (by omega) h0
end Go.Proofs.YtbkalloadlaloaaDoor
