/- The walk of the law that frames one behind the other are read one by one. (printed by genfbo.py) -/
import Derived.Test.YtcnpiclpdgkngaaDoorFbN
import Derived.Test.YtcnpiclpdgkngaaDoorFbD
import Derived.Test.YtcnpiclpdgkngaaDoorFbF
import Derived.Test.YtcnpiclpdgkngaaDoorFbB
namespace Go.Proofs.YtcnpiclpdgkngaaDoor
open Go.RowKit

theorem many_snoc (l : List (HF × Value × Value)) (k : Nat) (x : HF × Value × Value) (h : l[k]? = some x) : manyL (l.take (k + 1)) = manyL (l.take k) ++ hfputL x.1 := by
  rw [take_snoc l k x h]; simp [manyL]
theorem many_drop (l : List (HF × Value × Value)) (k : Nat) (x : HF × Value × Value) (h : l[k]? = some x) : manyL (l.drop k) = hfputL x.1 ++ manyL (l.drop (k + 1)) := by
  have hk := (List.getElem?_eq_some_iff.1 h)
  obtain ⟨hk, rfl⟩ := hk
  have e := List.drop_eq_getElem_cons hk
  unfold manyL
  rw [e, List.flatMap_cons]
theorem hput_le (f : HF) : (hfputL f).length ≤ 1016 := by
  cases h : rightH f
  · unfold hfputL; rw [h]; simp
  · exact (hput_len h).2
theorem many_len (l : List (HF × Value × Value)) : (manyL l).length ≤ 1016 * l.length := by
  induction l with
  | nil => simp [manyL]
  | cons x l ih =>
    have := hput_le x.1
    have e : manyL (x :: l) = hfputL x.1 ++ manyL l := rfl
    rw [e, List.length_append, List.length_cons]
    omega
theorem byts_rest {w : World} {bb ob q cq p : Nat} {P rs : List UInt8} (h : Byts w (.slice (some ⟨bb, ob, none⟩) q cq) (P ++ rs)) (hp : P.length = p) : Byts w (.slice (if cq = p then some ⟨bb, ob, none⟩ else some ⟨bb, ob + p, none⟩) (q - p) (cq - p)) rs := by
  obtain ⟨_, a', cap', he, h2, h3, h4, h5⟩ := h
  simp only [Value.slice.injEq] at he
  obtain ⟨rfl, hq, rfl⟩ := he
  have hl : q = p + rs.length := by rw [hq, List.length_append, hp]
  rw [← hq] at h2
  refine ⟨by simp, _, _, by rw [show q - p = rs.length by omega], by omega, by omega, ?_, ?_⟩
  · intro e; split at e <;> cases e
  · intro j u hu
    have hj : j < rs.length := by simpa using (List.getElem?_eq_some_iff.1 hu).1
    rw [if_neg (by omega)]
    obtain ⟨b, off, e, hc⟩ := h5 (p + j) u (by rw [List.map_append, List.getElem?_append_right (by simp; omega)]; simpa [hp] using hu)
    simp only [Option.some.injEq, Addr.mk.injEq] at e
    obtain ⟨rfl, rfl, _⟩ := e
    exact ⟨bb, ob + p, rfl, by rw [Nat.add_assoc]; exact hc⟩
set_option maxHeartbeats 8000000 in
set_option maxRecDepth 10000 in
theorem many_any {w : World} {v : Value} {l : List (HF × Value × Value)} (hT : Tabs w) (hU : UTabs w) (hv : FrsV w v l) :
    Calls Tryd.prog 6 #[v] w fun e w' => e = .returned (.bool true) ∧ Below w.heap.size w w' := by
  have HT := Lib.hid (fun (X : World) (h : Mod (fun _ => False) w X) => h.tabs hT (fun h => h))
  have HAL := Lib.hid (alive_any w hT hU)
  obtain ⟨a, cap, rfl, hc1, hc2, hel⟩ := hv
  obtain ⟨n, hn⟩ : ∃ n, n = l.length := ⟨_, rfl⟩
  rw [← hn] at hc1 ⊢
  have HN := Lib.hid hn
  have hnc : (n : Int) ≤ cap := by omega
  have HEL := Lib.hid hel
  clear hT hU hc1 hc2 hel hn
  by_cases hn20 : (n : Int) ≤ 20
  case neg =>
    go_enter Tryd.func6, Tryd.ntmps6
    go_wp2_with fail
    refine (HAL.out).mono ?_
    rintro e w1 ⟨rfl, hM1⟩
    have HM1 := Lib.hid hM1
    clear hM1
    go_wp2_with fail
    go_ret
    exact ⟨rfl, HM1.out.none_below⟩
  go_enter Tryd.func6, Tryd.ntmps6
  go_wp2_with fail
  refine (HAL.out).mono ?_
  rintro e w1 ⟨rfl, hM1⟩
  have HM1 := Lib.hid hM1
  clear hM1 HAL
  go_wp2_with fail
  go_loopw [3, 4] (fun s3 s4 wr => ∃ k : Nat, k ≤ n ∧ s4 = .int .i64 k ∧ ∃ ap cp, s3 = .slice ap (manyL (l.take k)).length cp ∧ Hid (OwnB wr w.heap.size (.slice ap (manyL (l.take k)).length cp) (manyL (l.take k)) ∧ Mod (fun _ => False) w wr) ∧ Hid (∀ x ∈ l.take k, greatH x.1 = false)) (fun _ s4 _ => n - (intOf s4).toNat)
  case atStart => exact ⟨0, Nat.zero_le _, rfl, none, 0, rfl, ⟨OwnB.nil _ _, HM1.out⟩, by show ∀ x ∈ _, _; intro x hx; simp at hx⟩
  case round =>
    clear HM1
    obtain ⟨k, hk, rfl, ap, cp, rfl, HR, HGR⟩ := hrel
    by_cases hkn : (k : Int) < n
    · have hkl : k < l.length := by have := HN.out; omega
      have hs : l[k]? = some l[k] := List.getElem?_eq_getElem hkl
      generalize l[k] = x at hs
      obtain ⟨b, off, rfl, ⟨q0, q1, q2, q3⟩, hsv, hbv⟩ := HEL.out k x hs
      obtain ⟨f, vs, vd⟩ := x
      simp only at q0 q1 q2 q3 hsv hbv
      obtain ⟨sa, sc, rfl, _⟩ := set_val hsv
      obtain ⟨da, dc, rfl, _⟩ := byts_val hbv
      have HS := Lib.hid hs
      have HSV := Lib.hid hsv
      have HBV := Lib.hid hbv
      have p0 := HR.out.2.cellAt q0 (fun h => h)
      have p1 := HR.out.2.cellAt q1 (fun h => h)
      have p2 := HR.out.2.cellAt q2 (fun h => h)
      have p3 := HR.out.2.cellAt q3 (fun h => h)
      have HQ : Hid (∀ X, Mod (fun _ => False) w X → X.cell? ⟨b, off + k * 4, none⟩ = some (.int .i64 f.k) ∧ X.cell? ⟨b, off + k * 4 + 1, none⟩ = some (.int .u64 (f.id : Int)) ∧ X.cell? ⟨b, off + k * 4 + 2, none⟩ = some (.slice sa f.st.length sc) ∧ X.cell? ⟨b, off + k * 4 + 3, none⟩ = some (.slice da f.d.length dc)) := fun X h => ⟨h.cellAt q0 (fun h => h), h.cellAt q1 (fun h => h), h.cellAt q2 (fun h => h), h.cellAt q3 (fun h => h)⟩
      clear hs hsv hbv q0 q1 q2 q3 hkl
      have HGRT := Lib.hid (fun (X : World) (h : Mod (fun _ => False) w X) => refgreat_any (f := f) (HSV.out.kept h) (byts_kept HBV.out h))
      unfold hfA at HGRT
      obtain ⟨acc, hacc⟩ : ∃ y, y = manyL (l.take k) := ⟨_, rfl⟩
      rw [← hacc] at HR ⊢
      obtain ⟨na, hna⟩ : ∃ y, y = acc.length := ⟨_, rfl⟩
      have hna2 : (na : Int) ≤ 25000 := by
        rw [hna, hacc]
        have := many_len (l.take k)
        have h3 : (l.take k).length ≤ 20 := by rw [List.length_take]; omega
        omega
      rw [← hna] at HR ⊢
      have HNA := Lib.hid hna
      have HACC := Lib.hid hacc
      clear hna hacc
      go_wp2_with fail
      refine (HGRT.out _ HR.out.2).mono ?_
      rintro e w2 ⟨rfl, hM2⟩
      have HM2 := Lib.hid (HR.out.2.trans hM2)
      have HO2 := Lib.hid (HR.out.1.keptF hM2)
      clear hM2 HR HGRT p0 p1 p2 p3
      generalize hgr : greatH f = gr at *
      cases gr
      case true =>
        go_wp2_with fail
        go_ret
        exact ⟨rfl, HM2.out.none_below⟩
      have hgs : (f.d.length : Int) ≤ 1500 ∧ (f.st.length : Int) ≤ 40 := by
        unfold greatH at hgr
        simp only [Bool.or_eq_false_iff, decide_eq_false_iff_not] at hgr
        omega
      have HG0 := Lib.hid hgr
      have HFV : Hid (HFV w2 f (.slice sa f.st.length sc) (.slice da f.d.length dc)) := ⟨HSV.out.kept HM2.out, byts_kept HBV.out HM2.out, by omega, by omega⟩
      obtain ⟨p0, p1, p2, p3⟩ := HQ.out _ HM2.out
      have hpl := hput_le f
      clear hgr hgs
      obtain ⟨P, hP⟩ : ∃ y, hfputL f = y := ⟨_, rfl⟩
      rw [hP] at hpl
      have HP := Lib.hid hP
      clear hP
      obtain ⟨np, hnp⟩ : ∃ y, P.length = y := ⟨_, rfl⟩
      rw [hnp] at hpl
      have HNP := Lib.hid hnp
      obtain ⟨n2, hn2⟩ : ∃ y, y = na + np := ⟨_, rfl⟩
      have hn22 : (n2 : Int) ≤ 30000 := by omega
      have HN2 := Lib.hid hn2
      obtain ⟨L2, hL2⟩ : ∃ y, y = acc ++ P := ⟨_, rfl⟩
      have HL2 := Lib.hid hL2
      clear hnp hn2 hL2 hpl
      go_wp2_with fail
      refine (hput_c (k := f.k) (i := (f.id : Int)) (HT.out _ HM2.out) HFV.out HP.out HNP.out rfl rfl).mono ?_
      rintro e w3 ⟨a3, c3, rfl, ho3, hM3⟩
      have HM3 := Lib.hid (HM2.out.trans hM3)
      have HO3 := Lib.hid (HO2.out.keptF hM3)
      have HP3 := Lib.hid ho3.byts
      clear ho3 hM3 HM2 HO2 HFV p0 p1 p2 p3
      go_wp2_with (first
        | ((with_reducible refine wpList_append_b ?_ (.tmp 25) (.tmp 30) ?_ (.slice ap na cp) acc w.heap.size n2 ?_ HO3.out (.slice a3 np c3) P ?_ HP3.out L2 HL2.out ?_ ?_ HM3.out.size ?_); (· exact rfl); (· exact rfl); (· exact rfl); (· exact rfl); (· have := HNA.out; have := HNP.out; have := HN2.out; omega); (· omega); intro a4 c4 w4 hA4; have HM4 := Lib.hid (hA4.modF HM3.out (Nat.le_refl _)); have HO4 := Lib.hid hA4.own; clear hA4)
        | fail)
      have HLL : Hid (L2.length = n2) := by show _ = _; rw [HL2.out, List.length_append]; have := HNA.out; have := HNP.out; have := HN2.out; omega
      have HNW : Hid (manyL (l.take (k + 1)) = L2) := by show _ = _; rw [many_snoc l k _ HS.out, HL2.out, HP.out, HACC.out]
      go_roundw
      case rel =>
        refine ⟨k + 1, by omega, by go_num, a4, c4, by rw [HNW.out, HLL.out], by show _ ∧ _; rw [HNW.out, HLL.out]; exact ⟨HO4.out, HM4.out⟩, ?_⟩
        show ∀ y ∈ _, _
        intro y hy
        rw [take_snoc l k _ HS.out] at hy
        rcases List.mem_append.1 hy with h | h
        · exact HGR.out y h
        · obtain rfl := List.mem_singleton.1 h; exact HG0.out
      case measure => simp [intOf]; omega
    · have hkn' : k = n := by omega
      have hall : l.take k = l := List.take_of_length_le (by have := HN.out; omega)
      rw [hall] at HR HGR ⊢
      have HB0 := Lib.hid HR.out.1.byts
      have HM2 := Lib.hid HR.out.2
      have hmz := many_len l
      have HMZ : Hid ((manyL l).length ≤ 20320) := by show _ ≤ _; have := HN.out; omega
      clear HR hall hmz
      go_wp2_with fail
      go_loopw [3, 5] (fun s3 s5 wq => ∃ j : Nat, j ≤ n ∧ s5 = .int .i64 j ∧ ∃ aq cq, s3 = .slice aq (manyL (l.drop j)).length cq ∧ Hid (Byts wq (.slice aq (manyL (l.drop j)).length cq) (manyL (l.drop j)) ∧ Mod (fun _ => False) w wq)) (fun _ s5 _ => n - (intOf s5).toNat)
      case atStart => exact ⟨0, Nat.zero_le _, rfl, ap, cp, rfl, ⟨HB0.out, HM2.out⟩⟩
      case round =>
        clear HB0 HM2
        obtain ⟨j, hj, rfl, aq, cq, rfl, HR⟩ := hrel
        by_cases hjn : (j : Int) < n
        · have hjl : j < l.length := by have := HN.out; omega
          have hs : l[j]? = some l[j] := List.getElem?_eq_getElem hjl
          generalize l[j] = x at hs
          obtain ⟨b, off, rfl, ⟨q0, q1, q2, q3⟩, hsv, hbv⟩ := HEL.out j x hs
          have hgx := HGR.out x (List.mem_of_getElem? hs)
          have hdr := many_drop l j x hs
          obtain ⟨f, vs, vd⟩ := x
          simp only at q0 q1 q2 q3 hsv hbv hgx hdr
          obtain ⟨sa, sc, rfl, _⟩ := set_val hsv
          obtain ⟨da, dc, rfl, _⟩ := byts_val hbv
          have hgs : (f.d.length : Int) ≤ 1500 ∧ (f.st.length : Int) ≤ 40 := by
            unfold greatH at hgx
            simp only [Bool.or_eq_false_iff, decide_eq_false_iff_not] at hgx
            omega
          have HQ : Hid (∀ X, Mod (fun _ => False) w X → X.cell? ⟨b, off + j * 4, none⟩ = some (.int .i64 f.k) ∧ X.cell? ⟨b, off + j * 4 + 1, none⟩ = some (.int .u64 (f.id : Int)) ∧ X.cell? ⟨b, off + j * 4 + 2, none⟩ = some (.slice sa f.st.length sc) ∧ X.cell? ⟨b, off + j * 4 + 3, none⟩ = some (.slice da f.d.length dc)) := fun X h => ⟨h.cellAt q0 (fun h => h), h.cellAt q1 (fun h => h), h.cellAt q2 (fun h => h), h.cellAt q3 (fun h => h)⟩
          have HFV : Hid (∀ X, Mod (fun _ => False) w X → HFV X f (.slice sa f.st.length sc) (.slice da f.d.length dc)) := fun X h => ⟨hsv.kept h, byts_kept hbv h, by omega, by omega⟩
          obtain ⟨p0, p1, p2, p3⟩ := HQ.out _ HR.out.2
          clear q0 q1 q2 q3 hsv hbv hgx hgs hs hjl
          obtain ⟨rs, hrs⟩ : ∃ y, y = manyL (l.drop (j + 1)) := ⟨_, rfl⟩
          rw [hdr, ← hrs] at HR ⊢
          have HRS := Lib.hid hrs
          have hrz : (rs.length : Int) ≤ 25000 := by
            rw [hrs]
            have := many_len (l.drop (j + 1))
            have h3 : (l.drop (j + 1)).length ≤ 20 := by rw [List.length_drop]; have := HN.out; omega
            omega
          clear hdr hrs
          generalize hR : rightH f = R at *
          have hrc := Lib.hid (fun (X : World) (h : Mod (fun _ => False) w X) => right_c (k := f.k) (i := (f.id : Int)) (HFV.out X h) rfl rfl)
          rw [hR] at hrc
          cases R
          case false =>
            have e0 : hfputL f = [] := by unfold hfputL; rw [hR]; simp
            rw [e0, List.nil_append] at HR ⊢
            clear e0 hR
            obtain ⟨nr, hnr⟩ : ∃ y, y = rs.length := ⟨_, rfl⟩
            rw [← hnr] at HR ⊢
            have HNR := Lib.hid hnr
            clear hnr
            go_wp2_with fail
            refine (hrc.out _ HR.out.2).mono ?_
            rintro e w2 ⟨rfl, hM2⟩
            have HM2 := Lib.hid (HR.out.2.trans hM2)
            have HB2 := Lib.hid (byts_kept HR.out.1 hM2)
            clear hM2 HR p0 p1 p2 p3
            go_wp2_with fail
            go_roundw
            case rel => exact ⟨j + 1, by omega, by go_num, aq, cq, by rw [← HRS.out, HNR.out], by show _ ∧ _; rw [← HRS.out, ← HNR.out]; exact ⟨HB2.out, HM2.out⟩⟩
            case measure => simp [intOf]; omega
          case true =>
            have HNX := Lib.hid (put_next hR rs)
            have hpz := hput_len hR
            clear hR
            obtain ⟨P, hP⟩ : ∃ y, hfputL f = y := ⟨_, rfl⟩
            rw [hP] at HNX hpz HR ⊢
            obtain ⟨p, hp⟩ : ∃ y, P.length = y := ⟨_, rfl⟩
            rw [hp] at HNX hpz
            obtain ⟨B, hB⟩ : ∃ y, y = P ++ rs := ⟨_, rfl⟩
            rw [← hB] at HNX HR ⊢
            obtain ⟨q, hq⟩ : ∃ y, y = B.length := ⟨_, rfl⟩
            rw [← hq] at HR ⊢
            have hqz : q = p + rs.length := by rw [hq, hB, List.length_append, hp]
            obtain ⟨bb, ob, cq', hv', hq1, hq2, hcb⟩ := byts_addr HR.out.1 (by intro h0; rw [h0] at hq; simp at hq; omega)
            simp only [Value.slice.injEq] at hv'
            obtain ⟨rfl, hq3, rfl⟩ := hv'
            have HBQ := Lib.hid hB
            have HP := Lib.hid hp
            have HQL := Lib.hid hq
            have HQZ := Lib.hid hqz
            have hp1 : (2 : Int) ≤ p := by omega
            have hp2 : (p : Int) ≤ q := by omega
            have hp3 : (q : Int) ≤ 30000 := by omega
            have hp4 : (q : Int) ≤ cq := by omega
            clear hP hB hq hp hqz hq1 hq2 hq3 hcb hpz hrz
            go_wp2_with fail
            refine (hrc.out _ HR.out.2).mono ?_
            rintro e w2 ⟨rfl, hM2⟩
            have HM2 := Lib.hid (HR.out.2.trans hM2)
            have HB2 := Lib.hid (byts_kept HR.out.1 hM2)
            clear hM2 HR p0 p1 p2 p3
            go_wp2_with fail
            refine (next_c f.k (f.id : Int) (p : Int) f.st.length f.d.length HB2.out (by have := HQL.out; omega) HNX.out rfl rfl rfl rfl rfl).mono ?_
            rintro e w3 ⟨sa3, sc3, da3, dc3, rfl, hv3, hM3⟩
            go_wp2_with fail
            have hk4 : Mod (fun _ => False) w3 (w3.alloc (.cells #[.int .i64 f.k, .int .u64 (f.id : Int), .slice sa3 f.st.length sc3, .slice da3 f.d.length dc3] 26)) := (Mod.refl _ _).alloc _
            have HV4 := Lib.hid (hv3.kept hk4)
            have HM4 := Lib.hid ((HM2.out.trans hM3).trans hk4)
            have HB4 := Lib.hid (byts_kept (byts_kept HB2.out hM3) hk4)
            have HG4 := Lib.hid (Blk.new w3 #[.int .i64 f.k, .int .u64 (f.id : Int), .slice sa3 f.st.length sc3, .slice da3 f.d.length dc3] 26)
            clear hv3 hM3 hk4 HM2 HB2
            generalize hW4 : (w3.alloc (.cells #[.int .i64 f.k, .int .u64 (f.id : Int), .slice sa3 f.st.length sc3, .slice da3 f.d.length dc3] 26)) = w4 at *
            clear hW4
            generalize w3.heap.size = gG at *
            have hd := HM4.out.drew
            obtain ⟨r0, r1, r2, r3⟩ := HQ.out _ hd
            have hg4 := (Mod.refl (fun _ => False) w4).drew.blk HG4.out (fun h => h)
            have hsame := hsame_c (k := f.k) (i := (f.id : Int)) (k' := f.k) (i' := (f.id : Int)) (HV4.out.kept ((Mod.refl (fun _ => False) w4).drew)) (HFV.out _ hd) rfl rfl rfl rfl
            rw [sameHF_self] at hsame
            have HSA := Lib.hid hsame
            clear hsame
            refine wp_region_held_drew (S := fun X => Blk X gG #[.int .i64 f.k, .int .u64 (f.id : Int), .slice sa3 f.st.length sc3, .slice da3 f.d.length dc3] 26 ∧ (X.cell? ⟨b, off + j * 4, none⟩ = some (.int .i64 f.k) ∧ X.cell? ⟨b, off + j * 4 + 1, none⟩ = some (.int .u64 (f.id : Int)) ∧ X.cell? ⟨b, off + j * 4 + 2, none⟩ = some (.slice sa f.st.length sc) ∧ X.cell? ⟨b, off + j * 4 + 3, none⟩ = some (.slice da f.d.length dc))) (by kernel_rfl) ⟨hg4, r0, r1, r2, r3⟩ (fun hS => ?_)
            refine wpAnyH_take (i := 0) (v := .int .i64 0) rfl (by kernel_rfl) (by kernel_rfl) (by kernel_rfl) (fun _ _ _ h => h) (Or.inl ⟨by rfl, fun X hX => ?_⟩) hS ?_
            · go_simp
            refine wpAnyH_take (i := 1) (v := .bool false) rfl (by kernel_rfl) (by kernel_rfl) (by kernel_rfl) (fun _ _ _ h => h) (Or.inl ⟨by rfl, fun X hX => ?_⟩) hS ?_
            · go_simp
            refine wpAnyH_take (i := 2) (v := .bool false) rfl (by kernel_rfl) (by kernel_rfl) (by kernel_rfl) (fun _ _ _ h => h) (Or.inl ⟨by rfl, fun X hX => ?_⟩) hS ?_
            · go_simp
            refine wpAnyH_take (i := 3) (v := .agg #[.int .i64 f.k, .int .u64 (f.id : Int), .slice sa3 f.st.length sc3, .slice da3 f.d.length dc3]) rfl (by kernel_rfl) (by kernel_rfl) (by kernel_rfl) (fun _ _ _ h => h) (Or.inl ⟨by rfl, fun X hX => ?_⟩) hS ?_
            · have c0 := hX.1.cellAt 0 rfl; have c1 := hX.1.cellAt 1 rfl; have c2 := hX.1.cellAt 2 rfl; have c3 := hX.1.cellAt 3 rfl; go_simp
            refine wpAnyH_take (i := 4) (v := .slice (some ⟨b, off, none⟩) n cap) rfl (by kernel_rfl) (by kernel_rfl) (by kernel_rfl) (fun _ _ _ h => h) (Or.inl ⟨by rfl, fun X hX => ?_⟩) hS ?_
            · go_simp
            refine wpAnyH_take (i := 5) (v := .int .i64 j) rfl (by kernel_rfl) (by kernel_rfl) (by kernel_rfl) (fun _ _ _ h => h) (Or.inl ⟨by rfl, fun X hX => ?_⟩) hS ?_
            · go_simp
            refine wpAnyH_take (i := 6) (v := .pointer (some ⟨b, off + j * 4, none⟩)) rfl (by kernel_rfl) (by kernel_rfl) (by kernel_rfl) (fun _ _ _ h => h) (Or.inl ⟨by rfl, fun X hX => ?_⟩) hS ?_
            · go_simp
            refine wpAnyH_take (i := 7) (v := .agg #[.int .i64 f.k, .int .u64 (f.id : Int), .slice sa f.st.length sc, .slice da f.d.length dc]) rfl (by kernel_rfl) (by kernel_rfl) (by kernel_rfl) (fun _ _ _ h => h) (Or.inl ⟨by rfl, fun X hX => ?_⟩) hS ?_
            · obtain ⟨_, y0, y1, y2, y3⟩ := hX; go_simp
            refine wpAnyH_ready (rs := [8]) (by kernel_rfl) (by simp) ?_
            refine AllReadyH.cons rfl (fun K hK => ?_) AllReadyH.nil
            go_simp
            refine (HSA.out).mono ?_
            rintro e w6 ⟨rfl, hM6⟩
            have d6 := hd.trans hM6
            refine hK.out _ _ ⟨hM6.blk hg4 (fun h => h), HQ.out _ d6⟩ (fun hS => ?_)
            clear hK K
            refine wpAnyH_take (i := 9) (v := .bool false) rfl (by kernel_rfl) (by kernel_rfl) (by kernel_rfl) (fun _ _ _ h => h) (Or.inl ⟨by rfl, fun X hX => ?_⟩) hS ?_
            · go_simp
            refine wpAnyH_take (i := 10) (v := .bool false) rfl (by kernel_rfl) (by kernel_rfl) (by kernel_rfl) (fun _ _ _ h => h) (Or.inl ⟨by rfl, fun X hX => ?_⟩) hS ?_
            · go_simp
            refine wpAnyH_done (by kernel_rfl) ?_ _
            have HM6 := Lib.hid d6
            have HB6 := Lib.hid (byts_kept (byts_drew HB4.out) hM6)
            clear hS d6 hd hM6 r0 r1 r2 r3 hg4
            go_simp
            go_wp2_with fail
            refine ⟨⟨j + 1, by omega, by go_num, _, _, (by rw [← HRS.out, show rs.length = q - p by have := HQZ.out; omega]), ?_⟩, by simp [intOf]; omega⟩
            show _ ∧ _
            rw [← HRS.out, show rs.length = q - p by have := HQZ.out; omega]
            exact ⟨by have := HB6.out; rw [HBQ.out] at this; exact byts_rest this HP.out, HM6.out⟩
        · have hjn' : j = n := by omega
          have hall : manyL (l.drop j) = [] := by rw [List.drop_of_length_le (by have := HN.out; omega)]; rfl
          rw [hall] at HR ⊢
          simp only [List.length_nil] at HR ⊢
          go_wp2_with fail
          go_ret
          exact ⟨rfl, HR.out.2.none_below⟩
end Go.Proofs.YtcnpiclpdgkngaaDoor
