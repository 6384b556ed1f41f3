/- The program's Parse of long headers. -/
import Derived.Test.YtolbeamphmoimaaDoorHdP
import Derived.IntWalk
namespace Go.Proofs.YtolbeamphmoimaaDoor
open Go.RowKit

set_option maxHeartbeats 8000000 in
set_option maxRecDepth 100000 in
theorem parse_long0 {w : World} {v : Value} {l : List UInt8} {c : UInt8} {s1 : RS} (h : Byts w v l) (hl : (l.length : Int) ≤ 5000) (h0 : RS.byte ⟨l, 0⟩ = (c, s1)) {vb D S T : List UInt8} {s2 s3 s4 s5 s6 s7 s8 : RS} {n1 n2 : UInt8} {m : Nat} (hp : s1.e = 0 → ¬ c.toNat / 64 % 2 = 0) (h128 : 128 ≤ c.toNat) (hq : c.toNat / 4 % 4 = 0) (hk : c.toNat / 16 % 4 = 0) (y1 : s1.bytes 4 = (vb, s2)) (y2 : s2.byte = (n1, s3)) (y3 : s3.bytes n1.toNat = (D, s4)) (y4 : s4.byte = (n2, s5)) (y5 : s5.bytes n2.toNat = (S, s6)) {tl : Nat} {s67 : RS} (y6 : s6.int = (tl, s67)) (y7 : s67.bytes tl = (T, s7)) (y8 : s7.int = (m, s8)) (hT : (T.length : Int) ≤ 5000) (hs8 : (s8.l.length : Int) ≤ 5000) :
    Calls Tryd.prog 19 #[v] w (ParseOut w (longL l c 0 vb D S T m s8)) := by
  have H := Lib.hid h
  have HL := Lib.hid hl
  obtain ⟨a0, c0, rfl, _⟩ := byts_val h
  have H0 := Lib.hid h0
  have hc := c.toNat_lt
  have hci : (c.toNat : Int) < 256 := by omega
  obtain ⟨t3, t64, t128, t56, t4, t12, t16⟩ := bits_and c
  have HP : Hid (s1.e = 0 → (bits .and .u8 (c.toNat : Int) 64 == 0) = false) := fun e => by rw [t64, decide_eq_false (hp e)]
  clear t64 hp
  rw [decide_eq_true h128] at t128
  rw [decide_eq_true hq] at t12
  rw [hk] at t16
  simp only [Int.cast_ofNat_Int] at t16
  have Y1 := Lib.hid y1
  have Y2 := Lib.hid y2
  have Y3 := Lib.hid y3
  have Y4 := Lib.hid y4
  have Y5 := Lib.hid y5
  have Y6 := Lib.hid y6
  have Y7 := Lib.hid y7
  have Y8 := Lib.hid y8
  have hvb4 : (vb.length : Int) ≤ 4 := by have := bytes_le s1 4; rw [y1] at this; simp only at this; omega
  have hn1 : (n1.toNat : Int) < 256 := by have := n1.toNat_lt; omega
  have hn2 : (n2.toNat : Int) < 256 := by have := n2.toNat_lt; omega
  have HVE : V32 (verOf vb) := verOf_lt vb 4 (by omega)
  have HD1 : Hid ((D.length : Int) ≤ 1000) := by show _ ≤ _; have := bytes_le s3 n1.toNat; rw [y3] at this; simp only at this; omega
  have HS1 : Hid ((S.length : Int) ≤ 1000) := by show _ ≤ _; have := bytes_le s5 n2.toNat; rw [y5] at this; simp only at this; omega
  have HT1 : Hid ((T.length : Int) ≤ 100000) := by show _ ≤ _; omega
  have HB := Lib.hid (fun w' (hM : Mod (fun _ => False) w w') => read_any (H.out.kept hM (fun _ _ h => h)) (by omega))
  clear h hl h0 hc h128 hq t56 t4 hk y1 y2 y3 y4 y5 y7 y8 y6
  by_cases he : s1.e = 0
  case' pos => have tb : (s1.e == 0) = true := by simp [he]
  case' pos => have t64 := HP.out he
  case' neg => have tb : (s1.e == 0) = false := by simp [he]
  all_goals
    clear he
    go_enter Tryd.func19, Tryd.ntmps19
    go_wp2_with fail
    refine wp_scope_fwd ?_
    go_wp2_with fail
    refine (HB.out _ (((Mod.refl _ w).alloc _).alloc _)).mono ?_
    rintro e w1 ⟨rb, rfl, hrb, hr, hM1⟩
    have hP := Lib.hid (ps_new hr (by simpa using hrb) hM1)
    clear hr hM1 hrb
    go_wp2_with fail
    refine (byte_any hP.out.r).mono ?_
    rintro e w2 ⟨rfl, hr2, hM2⟩
    rw [H0.out] at hr2 ⊢
    simp only at hr2 ⊢
    have hP2 := Lib.hid (hP.out.step hr2 hM2)
    clear hr2 hM2
    go_wp2_with fail
    refine (bad_any hP2.out.r).mono ?_
    rintro e w3 ⟨rfl, rfl⟩
    obtain ⟨c0, c1, c2, c3, c4, c5, c6, c7, c8, c9⟩ := hP2.out.cells
    obtain ⟨g0, g1, g2, g3, g4, g5, g6, g7, g8⟩ := hP2.out.frozen
    go_wp2_with fail
    have hP101 := Lib.hid ((hP2.out.put0 (.bool true)).put2 (.int .i64 0))
    clear c0 c1 c2 c3 c4 c5 c6 c7 c8 c9 g0 g1 g2 g3 g4 g5 g6 g7 g8
    have hcb := bytes_any 4 hP101.out.r
    rw [show (((4 : Nat)) : Int) = 4 from rfl] at hcb
    (with_reducible refine (hcb).mono ?_)
    rintro e w102 ⟨v105, rfl, ho106, hr103, hM104⟩
    rw [Y1.out] at ho106 hr103
    simp only at ho106 hr103
    obtain ⟨avb, cpvb, rfl, _⟩ := byts_val ho106.byts
    have hO107 := Lib.hid (hP101.out.own_new ho106)
    have hP108 := Lib.hid (hP101.out.step hr103 hM104)
    clear hr103 hM104 ho106 hcb
    obtain ⟨nv, hnv⟩ : ∃ nv, nv = vb.length := ⟨_, rfl⟩
    have HNV := Lib.hid hnv
    have hOv : Hid (OwnB w102 (rb + 1) (.slice avb nv cpvb) vb) := by rw [hnv]; exact hO107
    rw [← hnv]
    have hnv4 : (nv : Int) ≤ 4 := by omega
    clear hnv hvb4
    go_wp2_with fail
    go_loopw [74] (fun i wr => ∃ k : Nat, k ≤ nv ∧ i = .int .i64 k ∧ Hid (PS w wr (w.heap.size + 1) rb (.bool true) (.bool false) (.int .i64 0) (.int .u32 (verOf (vb.take k) : Int)) (.slice none 0 0) (.slice none 0 0) (.slice none 0 0) (.slice none 0 0) (.int .i64 0) s2) ∧ Hid (OwnB wr (rb + 1) (.slice avb nv cpvb) vb)) (fun i _ => nv - (intOf i).toNat)
    case atStart => exact ⟨0, Nat.zero_le _, rfl, hP108, hOv⟩
    case round =>
      clear hP108 hOv
      obtain ⟨k, hk, rfl, HPk, HOk⟩ := hrel
      by_cases hlt : (k : Int) < nv
      · have hkl : k < vb.length := by have := HNV.out; omega
        have e1 : vb[k]? = some vb[k] := List.getElem?_eq_getElem hkl
        obtain ⟨b2, off2, rfl, g9⟩ := byts_at (show Byts wr (.slice avb nv cpvb) vb from HOk.out.byts) k _ e1
        have hsn := take_snoc vb k _ e1
        have hvl := verOf_lt (vb.take k) 3 (by rw [List.length_take]; have := hnv4; omega)
        generalize vb[k] = x at *
        unfold bv at g9
        have HV : Hid (verOf (vb.take (k + 1)) = verOf (vb.take k) * 256 + x.toNat) := by show _ = _; rw [hsn, verOf_snoc]
        have hx := x.toNat_lt
        have hx2 : (x.toNat : Int) < 256 := by omega
        have hor := or_low32 (verOf (vb.take k)) x.toNat hvl hx
        have hvi : (verOf (vb.take k) : Int) < 16777216 := by omega
        obtain ⟨c0, c1, c2, c3, c4, c5, c6, c7, c8, c9⟩ := HPk.out.cells
        obtain ⟨g0, g1, g2, g3, g4, g5, g6, g7, g8⟩ := HPk.out.frozen
        clear e1 hkl hsn hx hvl
        obtain ⟨u, hu⟩ : ∃ u, u = verOf (vb.take k) := ⟨_, rfl⟩
        rw [← hu] at c3 hor hvi HV
        have HU := Lib.hid hu
        clear hu
        go_wp2
        go_roundw
        case rel => exact ⟨k + 1, by omega, by go_num, Lib.hid (by rw [HV.out]; exact HPk.out.put3 _), Lib.hid (own_h HOk.out HPk.out.rB)⟩
        case measure => simp [intOf]; omega
      · obtain rfl : nv = k := by omega
        have HT4 : vb.take nv = vb := by rw [HNV.out, List.take_length]
        rw [HT4] at HPk
        clear HT4 hlt hk hnv4
        go_wp2_with fail
        (with_reducible refine (byte_any HPk.out.r).mono ?_)
        rintro e w201 ⟨rfl, hr202, hM203⟩
        rw [Y2.out] at hr202 ⊢
        simp only at hr202 ⊢
        have hP204 := Lib.hid (HPk.out.step hr202 hM203)
        clear hr202 hM203
        go_wp2_with fail
        (with_reducible refine (bytes_any n1.toNat hP204.out.r).mono ?_)
        rintro e w205 ⟨v208, rfl, ho209, hr206, hM207⟩
        rw [Y3.out] at ho209 hr206
        simp only at ho209 hr206
        obtain ⟨aD, cpD, rfl, _⟩ := byts_val ho209.byts
        have hO210 := Lib.hid (hP204.out.own_new ho209)
        have hP211 := Lib.hid (hP204.out.step hr206 hM207)
        clear hr206 hM207 ho209
        obtain ⟨c0, c1, c2, c3, c4, c5, c6, c7, c8, c9⟩ := hP211.out.cells
        obtain ⟨g0, g1, g2, g3, g4, g5, g6, g7, g8⟩ := hP211.out.frozen
        go_wp2_with fail
        have hP212 := Lib.hid (hP211.out.put4 (.slice aD D.length cpD))
        have hO213 := Lib.hid (own_h (hb := w.heap.size + 1) (i := 4) (u := (.slice aD D.length cpD)) hO210.out hP211.out.rB)
        clear c0 c1 c2 c3 c4 c5 c6 c7 c8 c9 g0 g1 g2 g3 g4 g5 g6 g7 g8
        (with_reducible refine (byte_any hP212.out.r).mono ?_)
        rintro e w214 ⟨rfl, hr215, hM216⟩
        rw [Y4.out] at hr215 ⊢
        simp only at hr215 ⊢
        have hO217 := Lib.hid (own_r hO213.out hM216)
        have hP218 := Lib.hid (hP212.out.step hr215 hM216)
        clear hr215 hM216
        go_wp2_with fail
        (with_reducible refine (bytes_any n2.toNat hP218.out.r).mono ?_)
        rintro e w219 ⟨v222, rfl, ho223, hr220, hM221⟩
        rw [Y5.out] at ho223 hr220
        simp only at ho223 hr220
        obtain ⟨aS, cpS, rfl, _⟩ := byts_val ho223.byts
        have hO224 := Lib.hid (own_r hO217.out hM221)
        have hO225 := Lib.hid (hP218.out.own_new ho223)
        have hP226 := Lib.hid (hP218.out.step hr220 hM221)
        clear hr220 hM221 ho223
        obtain ⟨c0, c1, c2, c3, c4, c5, c6, c7, c8, c9⟩ := hP226.out.cells
        obtain ⟨g0, g1, g2, g3, g4, g5, g6, g7, g8⟩ := hP226.out.frozen
        go_wp2_with fail
        have hP227 := Lib.hid (hP226.out.put5 (.slice aS S.length cpS))
        have hO228 := Lib.hid (own_h (hb := w.heap.size + 1) (i := 5) (u := (.slice aS S.length cpS)) hO224.out hP226.out.rB)
        have hO229 := Lib.hid (own_h (hb := w.heap.size + 1) (i := 5) (u := (.slice aS S.length cpS)) hO225.out hP226.out.rB)
        clear c0 c1 c2 c3 c4 c5 c6 c7 c8 c9 g0 g1 g2 g3 g4 g5 g6 g7 g8
        (with_reducible refine (int_any hP227.out.r).mono ?_)
        rintro e w230 ⟨rfl, hr231, hM232⟩
        rw [Y6.out] at hr231 ⊢
        simp only at hr231 ⊢
        have hO233 := Lib.hid (own_r hO228.out hM232)
        have hO234 := Lib.hid (own_r hO229.out hM232)
        have hP235 := Lib.hid (hP227.out.step hr231 hM232)
        clear hr231 hM232
        go_wp2_with fail
        (with_reducible refine (bytes_any tl hP235.out.r).mono ?_)
        rintro e w236 ⟨v239, rfl, ho240, hr237, hM238⟩
        rw [Y7.out] at ho240 hr237
        simp only at ho240 hr237
        obtain ⟨aT, cpT, rfl, _⟩ := byts_val ho240.byts
        have hO241 := Lib.hid (own_r hO233.out hM238)
        have hO242 := Lib.hid (own_r hO234.out hM238)
        have hO243 := Lib.hid (hP235.out.own_new ho240)
        have hP244 := Lib.hid (hP235.out.step hr237 hM238)
        clear hr237 hM238 ho240
        obtain ⟨c0, c1, c2, c3, c4, c5, c6, c7, c8, c9⟩ := hP244.out.cells
        obtain ⟨g0, g1, g2, g3, g4, g5, g6, g7, g8⟩ := hP244.out.frozen
        go_wp2_with fail
        have hP245 := Lib.hid (hP244.out.put6 (.slice aT T.length cpT))
        have hO246 := Lib.hid (own_h (hb := w.heap.size + 1) (i := 6) (u := (.slice aT T.length cpT)) hO241.out hP244.out.rB)
        have hO247 := Lib.hid (own_h (hb := w.heap.size + 1) (i := 6) (u := (.slice aT T.length cpT)) hO242.out hP244.out.rB)
        have hO248 := Lib.hid (own_h (hb := w.heap.size + 1) (i := 6) (u := (.slice aT T.length cpT)) hO243.out hP244.out.rB)
        clear c0 c1 c2 c3 c4 c5 c6 c7 c8 c9 g0 g1 g2 g3 g4 g5 g6 g7 g8
        (with_reducible refine (int_any hP245.out.r).mono ?_)
        rintro e w249 ⟨rfl, hr250, hM251⟩
        rw [Y8.out] at hr250 ⊢
        simp only at hr250 ⊢
        have hO252 := Lib.hid (own_r hO246.out hM251)
        have hO253 := Lib.hid (own_r hO247.out hM251)
        have hO254 := Lib.hid (own_r hO248.out hM251)
        have hP255 := Lib.hid (hP245.out.step hr250 hM251)
        clear hr250 hM251
        have HM : M62 m := by have := int_lt s7; rw [Y8.out] at this; exact this
        have hcc : 0 ≤ (c.toNat : Int) % 4 + 1 := by omega
        have hcc4 : (c.toNat : Int) % 4 + 1 ≤ 4 := by omega
        by_cases he8 : s8.e = 0
        · have tb8 : (s8.e == 0) = true := by simp [he8]
          by_cases hlt : m < c.toNat % 4 + 1
          · have HF : Hid (longL l c 0 vb D S T m s8 = (Hd.zero, 0, 3)) := by show _ = _; unfold longL; rw [if_pos ⟨he8, hlt⟩]
            have hlti : (m : Int) < (c.toNat : Int) % 4 + 1 := by omega
            clear he8 hlt
            go_wp2_with fail
            refine (bad_any hP255.out.r).mono ?_
            rintro e _ ⟨rfl, rfl⟩
            obtain ⟨⟨r0, r1, r2, r3, r4, r5, r6, r7, r8, r9⟩, ⟨f0, f1, f2, f3, f4, f5, f6, f7, f8⟩⟩ := hP255.out.rcells
            obtain ⟨c0, c1, c2, c3, c4, c5, c6, c7, c8, c9⟩ := hP255.out.cells
            obtain ⟨g0, g1, g2, g3, g4, g5, g6, g7, g8⟩ := hP255.out.frozen
            go_wp2_with ((first | (with_reducible refine wp_label ?_) | ((with_reducible refine wp_goto ?_); refine fwd_goto 0 rfl ?_) | ((with_reducible refine wp_goto ?_); refine fwd_goto 1 rfl ?_)))
            refine noGoto_ret ?_
            rw [set9_eq]
            have HB2 := blk_set9 (.bool false) (.bool false) (.int .i64 0) (.int .u32 0) (.slice none 0 0) (.slice none 0 0) (.slice none 0 0) (.slice none 0 0) (.int .i64 0) hP255.out.res
            have hM2 := mod_set9 (b := w.heap.size) (.bool false) (.bool false) (.int .i64 0) (.int .u32 0) (.slice none 0 0) (.slice none 0 0) (.slice none 0 0) (.slice none 0 0) (.int .i64 0) hP255.out.mod (fun _ => Nat.le_refl _)
            obtain ⟨q0, q1, q2, q3, q4, q5, q6, q7, q8, _⟩ := hd_cells HB2
            refine bodyPost_ret (v := .tuple #[_, _, _]) ?_ rfl (parseOut_of HF.out ⟨.slice none 0 0, .slice none 0 0, .slice none 0 0, .slice none 0 0, rfl, zero_hdv _, mod_fin hM2, zero_hdo _ _⟩)
            simp [results, Tryd.results19, go_sem, q0, q1, q2, q3, q4, q5, q6, q7, q8, Hd.zero, hdV]
          · have hlti : (c.toNat : Int) % 4 + 1 ≤ m := by omega
            by_cases hgt : s8.l.length < m
            · have hgti : (s8.l.length : Int) < m := by omega
              have HE8 : Hid ((2 : Int) ≠ 0) := by show _ ≠ _; decide
              have hs9 : s8.fail 2 = ⟨[], 2⟩ := by simp [RS.fail, he8]
              have HS9 := Lib.hid hs9
              have YC : Hid (RS.bytes ⟨[], 2⟩ (c.toNat % 4 + 1) = (([] : List UInt8), ⟨[], 2⟩)) := by show _ = _; simp [RS.bytes]
              have HF : Hid (longL l c 0 vb D S T m s8 = (Hd.zero, 0, 2)) := by
                show _ = _; unfold longL; rw [if_neg (by omega)]; simp only [if_pos hgt, hs9, YC.out]; simp [finL]
              clear he8 hlt hgt hs9
              go_wp2_with fail
              refine (bad_any hP255.out.r).mono ?_
              rintro e _ ⟨rfl, rfl⟩
              go_wp2_with fail
              refine (left_any hP255.out.r).mono ?_
              rintro e _ ⟨rfl, rfl⟩
              go_wp2_with fail
              refine (fail_any 2 hP255.out.r).mono ?_
              rintro e wf ⟨rfl, hrf, hMf⟩
              rw [HS9.out] at hrf
              have hPf := Lib.hid (hP255.out.step hrf hMf)
              clear hrf hMf
              go_wp2_with fail
              have hcb := bytes_any (c.toNat % 4 + 1) hPf.out.r
              rw [show (((c.toNat % 4 + 1 : Nat)) : Int) = (c.toNat : Int) % 4 + 1 by omega] at hcb
              (with_reducible refine (hcb).mono ?_)
              rintro e w256 ⟨v259, rfl, ho260, hr257, hM258⟩
              rw [YC.out] at ho260 hr257
              simp only at ho260 hr257
              obtain ⟨aC, cpC, rfl, _⟩ := byts_val ho260.byts
              have hO261 := Lib.hid (hPf.out.own_new ho260)
              have hP262 := Lib.hid (hPf.out.step hr257 hM258)
              clear hr257 hM258 ho260 hcb
              obtain ⟨c0, c1, c2, c3, c4, c5, c6, c7, c8, c9⟩ := hP262.out.cells
              obtain ⟨g0, g1, g2, g3, g4, g5, g6, g7, g8⟩ := hP262.out.frozen
              go_wp2_with fail
              have hP263 := Lib.hid ((hP262.out.put7 (.slice aC 0 cpC)).put8 (.int .i64 (wrap64 (IntKind.u64.wrap ((m : Int) - min (m : Int) ((c.toNat : Int) % 4 + 1))))))
              clear c0 c1 c2 c3 c4 c5 c6 c7 c8 c9 g0 g1 g2 g3 g4 g5 g6 g7 g8
              refine (bad_any hP263.out.r).mono ?_
              rintro e _ ⟨rfl, rfl⟩
              have tz2 : ((2 : Int) == 0) = false := by simp
              have tz : ((2 : Int) != 0) = true := by simp
              go_wp2_with ((first | (with_reducible refine wp_label ?_) | ((with_reducible refine wp_goto ?_); refine fwd_goto 0 rfl ?_) | ((with_reducible refine wp_goto ?_); refine fwd_goto 1 rfl ?_)))
              refine (bad_any hP263.out.r).mono ?_
              rintro e _ ⟨rfl, rfl⟩
              obtain ⟨⟨r0, r1, r2, r3, r4, r5, r6, r7, r8, r9⟩, ⟨f0, f1, f2, f3, f4, f5, f6, f7, f8⟩⟩ := hP263.out.rcells
              obtain ⟨c0, c1, c2, c3, c4, c5, c6, c7, c8, c9⟩ := hP263.out.cells
              obtain ⟨g0, g1, g2, g3, g4, g5, g6, g7, g8⟩ := hP263.out.frozen
              go_wp2_with ((first | (with_reducible refine wp_label ?_) | ((with_reducible refine wp_goto ?_); refine fwd_goto 0 rfl ?_) | ((with_reducible refine wp_goto ?_); refine fwd_goto 1 rfl ?_)))
              (first | refine noGoto_ret ?_ | refine fwd_ret ?_)
              rw [set9_eq]
              have HB2 := blk_set9 (.bool false) (.bool false) (.int .i64 0) (.int .u32 0) (.slice none 0 0) (.slice none 0 0) (.slice none 0 0) (.slice none 0 0) (.int .i64 0) hP263.out.res
              have hM2 := mod_set9 (b := w.heap.size) (.bool false) (.bool false) (.int .i64 0) (.int .u32 0) (.slice none 0 0) (.slice none 0 0) (.slice none 0 0) (.slice none 0 0) (.int .i64 0) hP263.out.mod (fun _ => Nat.le_refl _)
              obtain ⟨q0, q1, q2, q3, q4, q5, q6, q7, q8, _⟩ := hd_cells HB2
              refine bodyPost_ret (v := .tuple #[_, _, _]) ?_ rfl (parseOut_of HF.out ⟨.slice none 0 0, .slice none 0 0, .slice none 0 0, .slice none 0 0, rfl, zero_hdv _, mod_fin hM2, zero_hdo _ _⟩)
              simp [results, Tryd.results19, go_sem, q0, q1, q2, q3, q4, q5, q6, q7, q8, Hd.zero, hdV]
            · have hgti : (m : Int) ≤ s8.l.length := by omega
              have hlr8 := Lib.hid (rdr_len hP255.out.r)
              obtain ⟨C, s10, yc⟩ : ∃ C s10, s8.bytes (c.toNat % 4 + 1) = (C, s10) := ⟨_, _, rfl⟩
              have YC := Lib.hid yc
              have hz10 : s10.e = 0 := by
                have := congrArg (fun x => x.2.e) yc
                simp only [RS.bytes, he8, ne_eq, not_true, if_false] at this
                rw [if_neg (by omega)] at this
                exact this.symm
              have hrest : ((m - (c.toNat % 4 + 1) : Nat) : Int) = (m : Int) - min (m : Int) ((c.toNat : Int) % 4 + 1) := by omega
              have HF1 : Hid (longL l c 0 vb D S T m s8 = finL ⟨true, false, 0, verOf vb, D, S, T, C, (m : Int) - min (m : Int) ((c.toNat : Int) % 4 + 1)⟩ ((l.length : Int) - s10.l.length) s10.e) := by
                show _ = _; unfold longL; rw [if_neg (by omega)]; simp only [if_neg hgt, yc, hrest]
              have HC1 : Hid ((C.length : Int) ≤ 4) := by show _ ≤ _; have := bytes_le s8 (c.toNat % 4 + 1); rw [yc] at this; simp only at this; omega
              clear he8 hlt hgt yc hrest
              go_wp2_with fail
              refine (bad_any hP255.out.r).mono ?_
              rintro e _ ⟨rfl, rfl⟩
              go_wp2_with fail
              refine (left_any hP255.out.r).mono ?_
              rintro e _ ⟨rfl, rfl⟩
              go_wp2_with fail
              have hcb := bytes_any (c.toNat % 4 + 1) hP255.out.r
              rw [show (((c.toNat % 4 + 1 : Nat)) : Int) = (c.toNat : Int) % 4 + 1 by omega] at hcb
              (with_reducible refine (hcb).mono ?_)
              rintro e w256 ⟨v259, rfl, ho260, hr257, hM258⟩
              rw [YC.out] at ho260 hr257
              simp only at ho260 hr257
              obtain ⟨aC, cpC, rfl, _⟩ := byts_val ho260.byts
              have hO261 := Lib.hid (own_r hO252.out hM258)
              have hO262 := Lib.hid (own_r hO253.out hM258)
              have hO263 := Lib.hid (own_r hO254.out hM258)
              have hO264 := Lib.hid (hP255.out.own_new ho260)
              have hP265 := Lib.hid (hP255.out.step hr257 hM258)
              clear hr257 hM258 ho260 hcb
              obtain ⟨c0, c1, c2, c3, c4, c5, c6, c7, c8, c9⟩ := hP265.out.cells
              obtain ⟨g0, g1, g2, g3, g4, g5, g6, g7, g8⟩ := hP265.out.frozen
              go_wp2_with fail
              have hP266 := Lib.hid ((hP265.out.put7 (.slice aC C.length cpC)).put8 (.int .i64 ((m : Int) - min (m : Int) ((c.toNat : Int) % 4 + 1))))
              have hO267 := Lib.hid (own_h (hb := w.heap.size + 1) (i := 8) (u := (.int .i64 ((m : Int) - min (m : Int) ((c.toNat : Int) % 4 + 1)))) (own_h (hb := w.heap.size + 1) (i := 7) (u := (.slice aC C.length cpC)) hO261.out hP265.out.rB) hP265.out.rB)
              have hO268 := Lib.hid (own_h (hb := w.heap.size + 1) (i := 8) (u := (.int .i64 ((m : Int) - min (m : Int) ((c.toNat : Int) % 4 + 1)))) (own_h (hb := w.heap.size + 1) (i := 7) (u := (.slice aC C.length cpC)) hO262.out hP265.out.rB) hP265.out.rB)
              have hO269 := Lib.hid (own_h (hb := w.heap.size + 1) (i := 8) (u := (.int .i64 ((m : Int) - min (m : Int) ((c.toNat : Int) % 4 + 1)))) (own_h (hb := w.heap.size + 1) (i := 7) (u := (.slice aC C.length cpC)) hO263.out hP265.out.rB) hP265.out.rB)
              have hO270 := Lib.hid (own_h (hb := w.heap.size + 1) (i := 8) (u := (.int .i64 ((m : Int) - min (m : Int) ((c.toNat : Int) % 4 + 1)))) (own_h (hb := w.heap.size + 1) (i := 7) (u := (.slice aC C.length cpC)) hO264.out hP265.out.rB) hP265.out.rB)
              clear c0 c1 c2 c3 c4 c5 c6 c7 c8 c9 g0 g1 g2 g3 g4 g5 g6 g7 g8
              refine (bad_any hP266.out.r).mono ?_
              rintro e _ ⟨rfl, rfl⟩
              have hlr := Lib.hid (rdr_len hP266.out.r)
              have hz10' := Lib.hid hz10
              clear hz10
              have hcut1 : Hid ((c.toNat : Int) % 4 + 1 ≤ m) := by show _ ≤ _; omega
              have hl1 := HL.out
              have hz1 : IntKind.i64.wrap ((l.length : Int) - s10.l.length) = (l.length : Int) - s10.l.length := by have := hlr.out; exact IntWalk.i64_in _ (by omega)
              have HV := hdv_mk true false 0 (verOf vb) D S T C ((m : Int) - min (m : Int) ((c.toNat : Int) % 4 + 1)) (hO267.out.byts) (hO268.out.byts) (hO269.out.byts) (hO270.out.byts) (v32_lt HVE) HD1.out HS1.out HT1.out (by have := HC1.out; omega) (by decide) ⟨by omega, m62_le HM _⟩
              have HEND := Lib.hid (fun X (hM : Mod (fun _ => False) _ X) => end_on ((l.length : Int) - s10.l.length) HV hM)
              have HLEFT := Lib.hid (fun X (hM : Mod (fun _ => False) _ X) => left_any (hP266.out.keep hM).r)
              unfold hdV at HEND
              simp only at HEND
              clear HV hl1
              have hz : s10.e = 0 := hz10'.out
              have tz : (s10.e != 0) = false := by simp [hz]
              have tz2 : (s10.e == 0) = true := by simp [hz]
              obtain ⟨c0, c1, c2, c3, c4, c5, c6, c7, c8, c9⟩ := hP266.out.cells
              obtain ⟨g0, g1, g2, g3, g4, g5, g6, g7, g8⟩ := hP266.out.frozen
              cases hright : rightB ⟨true, false, 0, verOf vb, D, S, T, C, (m : Int) - min (m : Int) ((c.toNat : Int) % 4 + 1)⟩
              · have HF : Hid (finL ⟨true, false, 0, verOf vb, D, S, T, C, (m : Int) - min (m : Int) ((c.toNat : Int) % 4 + 1)⟩ ((l.length : Int) - s10.l.length) s10.e = (Hd.zero, 0, 3)) := by show _ = _; simp [finL, hz, hright]
                unfold endL at HEND
                simp only [hright, Bool.false_eq_true, if_false, hdV, Hd.zero, Int.natCast_zero] at HEND
                clear hz hright
                go_wp2_with fail
                go_region_with (first
                  | (go_at_call 33; refine (HLEFT.out _ ?_).mono ?_; (first | exact Mod.refl _ _ | exact (Mod.refl _ _).drew | exact (Mod.refl _ _).drew.drew); rintro e w9 ⟨rfl, rfl⟩)
                  | (go_at_call 36; (first | rw [hz1] | skip); refine (HEND.out _ ?_).mono ?_; (first | exact Mod.refl _ _ | exact (Mod.refl _ _).drew | exact (Mod.refl _ _).drew.drew); rintro e w9 ⟨rfl, hM9⟩; have hP9 := Lib.hid (hP266.out.keep hM9); obtain ⟨⟨r0, r1, r2, r3, r4, r5, r6, r7, r8, r9⟩, ⟨f0, f1, f2, f3, f4, f5, f6, f7, f8⟩⟩ := hP9.out.rcells))
                all_goals
                  go_wp2_with fail
                  (first | refine noGoto_ret ?_ | refine fwd_ret ?_)
                  have hlt9 : w.heap.size < rb := Nat.lt_trans hP9.out.hB hP9.out.rB
                  rw [set9_eq]
                  have HB2 := blk_set9 (.bool false) (.bool false) (.int .i64 0) (.int .u32 0) (.slice none 0 0) (.slice none 0 0) (.slice none 0 0) (.slice none 0 0) (.int .i64 0) hP9.out.res
                  have hM2 := mod_set9 (b := w.heap.size) (.bool false) (.bool false) (.int .i64 0) (.int .u32 0) (.slice none 0 0) (.slice none 0 0) (.slice none 0 0) (.slice none 0 0) (.int .i64 0) hP9.out.mod (fun _ => Nat.le_refl _)
                  obtain ⟨q0, q1, q2, q3, q4, q5, q6, q7, q8, _⟩ := hd_cells HB2
                  refine bodyPost_ret (v := .tuple #[_, _, _]) ?_ rfl (parseOut_of (HF1.out.trans HF.out) ⟨.slice none 0 0, .slice none 0 0, .slice none 0 0, .slice none 0 0, rfl, zero_hdv _, mod_fin hM2, zero_hdo _ _⟩)
                  simp [results, Tryd.results19, go_sem, q0, q1, q2, q3, q4, q5, q6, q7, q8, Hd.zero, hdV]
              · have HF : Hid (finL ⟨true, false, 0, verOf vb, D, S, T, C, (m : Int) - min (m : Int) ((c.toNat : Int) % 4 + 1)⟩ ((l.length : Int) - s10.l.length) s10.e = (⟨true, false, 0, verOf vb, D, S, T, C, (m : Int) - min (m : Int) ((c.toNat : Int) % 4 + 1)⟩, (l.length : Int) - s10.l.length, 0)) := by show _ = _; simp [finL, hz, hright]
                unfold endL at HEND
                simp only [hright, if_true, hdV] at HEND
                clear hz hright
                go_wp2_with fail
                go_region_with (first
                  | (go_at_call 33; refine (HLEFT.out _ ?_).mono ?_; (first | exact Mod.refl _ _ | exact (Mod.refl _ _).drew | exact (Mod.refl _ _).drew.drew); rintro e w9 ⟨rfl, rfl⟩)
                  | (go_at_call 36; (first | rw [hz1] | skip); refine (HEND.out _ ?_).mono ?_; (first | exact Mod.refl _ _ | exact (Mod.refl _ _).drew | exact (Mod.refl _ _).drew.drew); rintro e w9 ⟨rfl, hM9⟩; have hP9 := Lib.hid (hP266.out.keep hM9); obtain ⟨⟨r0, r1, r2, r3, r4, r5, r6, r7, r8, r9⟩, ⟨f0, f1, f2, f3, f4, f5, f6, f7, f8⟩⟩ := hP9.out.rcells))
                all_goals
                  go_wp2_with fail
                  (first | refine noGoto_ret ?_ | refine fwd_ret ?_)
                  have hlt9 : w.heap.size < rb := Nat.lt_trans hP9.out.hB hP9.out.rB
                  rw [set9_eq]
                  have HB2 := blk_set9 (.bool true) (.bool false) (.int .i64 0) (.int .u32 (verOf vb : Int)) (.slice aD D.length cpD) (.slice aS S.length cpS) (.slice aT T.length cpT) (.slice aC C.length cpC) (.int .i64 ((m : Int) - min (m : Int) ((c.toNat : Int) % 4 + 1))) hP9.out.res
                  have hM2 := mod_set9 (b := w.heap.size) (.bool true) (.bool false) (.int .i64 0) (.int .u32 (verOf vb : Int)) (.slice aD D.length cpD) (.slice aS S.length cpS) (.slice aT T.length cpT) (.slice aC C.length cpC) (.int .i64 ((m : Int) - min (m : Int) ((c.toNat : Int) % 4 + 1))) hP9.out.mod (fun _ => Nat.le_refl _)
                  obtain ⟨q0, q1, q2, q3, q4, q5, q6, q7, q8, _⟩ := hd_cells HB2
                  refine bodyPost_ret (v := .tuple #[_, _, _]) ?_ rfl (parseOut_of (HF1.out.trans HF.out) ⟨.slice aD D.length cpD, .slice aS S.length cpS, .slice aT T.length cpT, .slice aC C.length cpC, rfl, (hdv_mk true false 0 (verOf vb) D S T C ((m : Int) - min (m : Int) ((c.toNat : Int) % 4 + 1)) (own_fin hO267.out hM9 hlt9 (.bool true) (.bool false) (.int .i64 0) (.int .u32 (verOf vb : Int)) (.slice aD D.length cpD) (.slice aS S.length cpS) (.slice aT T.length cpT) (.slice aC C.length cpC) (.int .i64 ((m : Int) - min (m : Int) ((c.toNat : Int) % 4 + 1)))).byts (own_fin hO268.out hM9 hlt9 (.bool true) (.bool false) (.int .i64 0) (.int .u32 (verOf vb : Int)) (.slice aD D.length cpD) (.slice aS S.length cpS) (.slice aT T.length cpT) (.slice aC C.length cpC) (.int .i64 ((m : Int) - min (m : Int) ((c.toNat : Int) % 4 + 1)))).byts (own_fin hO269.out hM9 hlt9 (.bool true) (.bool false) (.int .i64 0) (.int .u32 (verOf vb : Int)) (.slice aD D.length cpD) (.slice aS S.length cpS) (.slice aT T.length cpT) (.slice aC C.length cpC) (.int .i64 ((m : Int) - min (m : Int) ((c.toNat : Int) % 4 + 1)))).byts (own_fin hO270.out hM9 hlt9 (.bool true) (.bool false) (.int .i64 0) (.int .u32 (verOf vb : Int)) (.slice aD D.length cpD) (.slice aS S.length cpS) (.slice aT T.length cpT) (.slice aC C.length cpC) (.int .i64 ((m : Int) - min (m : Int) ((c.toNat : Int) % 4 + 1)))).byts (v32_lt HVE) HD1.out HS1.out HT1.out (by have := HC1.out; omega) (by decide) ⟨by omega, m62_le HM _⟩), mod_fin hM2, ⟨((own_fin hO267.out hM9 hlt9 (.bool true) (.bool false) (.int .i64 0) (.int .u32 (verOf vb : Int)) (.slice aD D.length cpD) (.slice aS S.length cpS) (.slice aT T.length cpT) (.slice aC C.length cpC) (.int .i64 ((m : Int) - min (m : Int) ((c.toNat : Int) % 4 + 1)))).mono (by omega)), ((own_fin hO268.out hM9 hlt9 (.bool true) (.bool false) (.int .i64 0) (.int .u32 (verOf vb : Int)) (.slice aD D.length cpD) (.slice aS S.length cpS) (.slice aT T.length cpT) (.slice aC C.length cpC) (.int .i64 ((m : Int) - min (m : Int) ((c.toNat : Int) % 4 + 1)))).mono (by omega)), ((own_fin hO269.out hM9 hlt9 (.bool true) (.bool false) (.int .i64 0) (.int .u32 (verOf vb : Int)) (.slice aD D.length cpD) (.slice aS S.length cpS) (.slice aT T.length cpT) (.slice aC C.length cpC) (.int .i64 ((m : Int) - min (m : Int) ((c.toNat : Int) % 4 + 1)))).mono (by omega)), ((own_fin hO270.out hM9 hlt9 (.bool true) (.bool false) (.int .i64 0) (.int .u32 (verOf vb : Int)) (.slice aD D.length cpD) (.slice aS S.length cpS) (.slice aT T.length cpT) (.slice aC C.length cpC) (.int .i64 ((m : Int) - min (m : Int) ((c.toNat : Int) % 4 + 1)))).mono (by omega))⟩⟩)
                  simp [results, Tryd.results19, go_sem, q0, q1, q2, q3, q4, q5, q6, q7, q8, hdV]
        · have hm0 : m = 0 := by have := int_bad s7; rw [Y8.out] at this; exact this he8
          subst hm0
          have HE8 := Lib.hid he8
          have YC : Hid (s8.bytes (c.toNat % 4 + 1) = (([] : List UInt8), s8)) := by show _ = _; simp [RS.bytes, he8]
          have HF : Hid (longL l c 0 vb D S T 0 s8 = (Hd.zero, 0, s8.e)) := by
            show _ = _; unfold longL; rw [if_neg (by simp [he8])]; simp only [if_neg (Nat.not_lt_zero _), YC.out]; simp [finL, he8]
          have tb8 : (s8.e == 0) = false := by simp [he8]
          clear he8
          go_wp2_with fail
          refine (bad_any hP255.out.r).mono ?_
          rintro e _ ⟨rfl, rfl⟩
          go_wp2_with fail
          refine (left_any hP255.out.r).mono ?_
          rintro e _ ⟨rfl, rfl⟩
          go_wp2_with fail
          have hcb := bytes_any (c.toNat % 4 + 1) hP255.out.r
          rw [show (((c.toNat % 4 + 1 : Nat)) : Int) = (c.toNat : Int) % 4 + 1 by omega] at hcb
          (with_reducible refine (hcb).mono ?_)
          rintro e w256 ⟨v259, rfl, ho260, hr257, hM258⟩
          rw [YC.out] at ho260 hr257
          simp only at ho260 hr257
          obtain ⟨aC, cpC, rfl, _⟩ := byts_val ho260.byts
          have hO261 := Lib.hid (hP255.out.own_new ho260)
          have hP262 := Lib.hid (hP255.out.step hr257 hM258)
          clear hr257 hM258 ho260 hcb
          obtain ⟨c0, c1, c2, c3, c4, c5, c6, c7, c8, c9⟩ := hP262.out.cells
          obtain ⟨g0, g1, g2, g3, g4, g5, g6, g7, g8⟩ := hP262.out.frozen
          go_wp2_with fail
          have hP263 := Lib.hid ((hP262.out.put7 (.slice aC 0 cpC)).put8 (.int .i64 (0)))
          clear c0 c1 c2 c3 c4 c5 c6 c7 c8 c9 g0 g1 g2 g3 g4 g5 g6 g7 g8
          refine (bad_any hP263.out.r).mono ?_
          rintro e _ ⟨rfl, rfl⟩
          have tz2 : (s8.e == 0) = false := by simp [HE8.out]
          have tz : (s8.e != 0) = true := by simp [HE8.out]
          go_wp2_with ((first | (with_reducible refine wp_label ?_) | ((with_reducible refine wp_goto ?_); refine fwd_goto 0 rfl ?_) | ((with_reducible refine wp_goto ?_); refine fwd_goto 1 rfl ?_)))
          refine (bad_any hP263.out.r).mono ?_
          rintro e _ ⟨rfl, rfl⟩
          obtain ⟨⟨r0, r1, r2, r3, r4, r5, r6, r7, r8, r9⟩, ⟨f0, f1, f2, f3, f4, f5, f6, f7, f8⟩⟩ := hP263.out.rcells
          obtain ⟨c0, c1, c2, c3, c4, c5, c6, c7, c8, c9⟩ := hP263.out.cells
          obtain ⟨g0, g1, g2, g3, g4, g5, g6, g7, g8⟩ := hP263.out.frozen
          go_wp2_with ((first | (with_reducible refine wp_label ?_) | ((with_reducible refine wp_goto ?_); refine fwd_goto 0 rfl ?_) | ((with_reducible refine wp_goto ?_); refine fwd_goto 1 rfl ?_)))
          (first | refine noGoto_ret ?_ | refine fwd_ret ?_)
          rw [set9_eq]
          have HB2 := blk_set9 (.bool false) (.bool false) (.int .i64 0) (.int .u32 0) (.slice none 0 0) (.slice none 0 0) (.slice none 0 0) (.slice none 0 0) (.int .i64 0) hP263.out.res
          have hM2 := mod_set9 (b := w.heap.size) (.bool false) (.bool false) (.int .i64 0) (.int .u32 0) (.slice none 0 0) (.slice none 0 0) (.slice none 0 0) (.slice none 0 0) (.int .i64 0) hP263.out.mod (fun _ => Nat.le_refl _)
          obtain ⟨q0, q1, q2, q3, q4, q5, q6, q7, q8, _⟩ := hd_cells HB2
          refine bodyPost_ret (v := .tuple #[_, _, _]) ?_ rfl (parseOut_of HF.out ⟨.slice none 0 0, .slice none 0 0, .slice none 0 0, .slice none 0 0, rfl, zero_hdv _, mod_fin hM2, zero_hdo _ _⟩)
          simp [results, Tryd.results19, go_sem, q0, q1, q2, q3, q4, q5, q6, q7, q8, Hd.zero, hdV]
end Go.Proofs.YtolbeamphmoimaaDoor
