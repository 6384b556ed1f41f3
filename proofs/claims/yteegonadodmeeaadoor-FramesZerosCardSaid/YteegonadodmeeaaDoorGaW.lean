/- An Ack is read: the program's. -/
import Derived.Test.YteegonadodmeeaaDoorGaV
import Derived.Test.YteegonadodmeeaaDoorGaE
namespace Go.Proofs.YteegonadodmeeaaDoor
open Go.RowKit

theorem OwnR.apart {w : World} {B b : Nat} {v : Value} {l : List (Nat × Nat)} {C : Array Value} {T : TypeId} (h : OwnR w B v l) (hb : Blk w b C T) (ht : T ≠ 44) : ¬ v.ownBlock = some b := by
  intro e
  rcases h.2 with ⟨rfl, _⟩ | ⟨g, cap, cur, rfl, _, hg, _⟩
  · simp [Value.ownBlock] at e
  · simp [Value.ownBlock] at e
    subst e
    exact Blk.ne hb (show Blk w g cur 44 from hg) ht rfl
theorem infoRg : (Tryd.prog.info? 44).map (fun i => (i.zero, i.size, i.bytes)) = some (some (.agg #[.int .u64 0, .int .u64 0]), 2, 16) := by kernel_rfl
theorem rg_one (w : World) {a b : Nat} {x y : Int} (h1 : (a : Int) = x) (h2 : (b : Int) = y) : RgV (w.alloc (.cells #[.int .u64 x, .int .u64 y] 44)) (.slice (some ⟨w.heap.size, 0, none⟩) 1 1) [(a, b)] := by
  subst h1 h2
  have hb := Blk.new w #[.int .u64 (a : Int), .int .u64 (b : Int)] 44
  refine ⟨by simp [rgC], some ⟨w.heap.size, 0, none⟩, 1, rfl, Nat.le_refl _, by decide, fun e => by simp at e, fun j u hu => ⟨w.heap.size, 0, rfl, ?_⟩⟩
  simp only [List.flatMap_cons, List.flatMap_nil, List.append_nil, rgC] at hu
  rw [Nat.zero_add]
  match j, hu with
  | 0, hu => simp at hu; subst hu; exact hb.cellAt 0 rfl
  | 1, hu => simp at hu; subst hu; exact hb.cellAt 1 rfl
  | (_ + 2), hu => simp at hu
theorem own_one (w : World) (B : Nat) (hB : B ≤ w.heap.size) {a b : Nat} {x y : Int} (h1 : (a : Int) = x) (h2 : (b : Int) = y) : OwnR (w.alloc (.cells #[.int .u64 x, .int .u64 y] 44)) B (.slice (some ⟨w.heap.size, 0, none⟩) 1 1) [(a, b)] := by
  subst h1 h2
  refine ⟨by simp [rgC], .inr ⟨w.heap.size, 1, _, rfl, hB, heap_alloc_new w _, Nat.le_refl _, by decide, ?_, ?_⟩⟩
  · rfl
  · simp [rgC]
theorem wpList_append_rg {w : World} {ops : Array Oper} {rest : List Oper} {o : Oper} {a : Act} {Q : Exit → Act → World → Prop} (hgd : o.guard = none) (s x : Operand)
    (ho : o.op = .call { callee := .builtin .append, args := #[s, x], argTypes := #[24, 24] })
    (v : Value) (l : List (Nat × Nat)) (B : Nat) (hs : a.eval s = v) (hown : OwnR w B v l)
    (sv : Value) (new : Nat × Nat) (hx : a.eval x = sv) (hsl : RgV w sv [new]) (n : Nat) (hln : l.length = n) (hn : n ≤ 100000) (hbase : B ≤ w.heap.size)
    (h : ∀ ap cp w', OwnR w' B (.slice ap (n + 1) cp) (l ++ [new]) → w.grownBy w' v.ownBlock → wpList Tryd.prog ops Q rest (a.put o.dst (.slice ap (n + 1) cp)) w') : wpList Tryd.prog ops Q (o :: rest) a w := by
  subst hln
  obtain ⟨i0, hi, hz0, hz1, hz2⟩ := info_parts infoRg
  refine wpList_append_sl hgd s x 24 ho B 44 i0 _ 2 16 Tryd.underlying24 hi hz0 hz1 hz2 rfl (by decide) v l.length (l.flatMap rgC) hs hown sv 1 ([new].flatMap rgC) hx hsl (rgC_one _) (by omega) (by decide) hbase ?_
  intro v' w' ho' hg
  have ho2 : OwnR w' B v' (l ++ [new]) := by unfold OwnR; simpa using ho'
  obtain ⟨ap, cp, rfl, _⟩ := rg_val ho2.rgv
  have e : (l ++ [new]).length = l.length + 1 := by simp
  rw [e] at ho2 ⊢
  exact h ap cp w' ho2 hg
/-- Behind an append and the store of what it gave. -/
theorem RdS.app {w0 w wm w' : World} {rb fb : Nat} {s : RS} {f : Fr} {vd vr v2 : Value} {l2 : List (Nat × Nat)} (h : RdS w0 w rb fb s f vd vr) (hA : Mod (fun _ => False) w wm) (ho : OwnR w' w0.heap.size v2 l2) (hg : wm.grownBy w' vr.ownBlock) : RdS w0 (w'.setCell ⟨fb, 7, none⟩ v2) rb fb s (f.setR l2) vd v2 := by
  have hM : Mod (fun j => vr.ownBlock = some j) w w' := (hA.mono (fun _ _ e => e.elim)).trans ((Mod.refl (fun j => vr.ownBlock = some j) _).grown hg (fun k hk _ => hk))
  have hb : ∀ j, vr.ownBlock = some j → w0.heap.size ≤ j := fun j hj => (World.ownsRow.lt h.or j hj).1
  have hF : FrB w' fb f vd vr := ⟨hM.blk h.fr.blk (fun e => by have := hb _ e; have := h.fl; omega), h.fr.len⟩
  have hS : Mod (fun k => k = fb) w' (w'.setCell ⟨fb, 7, none⟩ v2) := (Mod.refl (fun k => k = fb) w').setCell (p := ⟨fb, 7, none⟩) (fun _ => rfl) v2
  have hr : Rdr w' rb s := hM.rdr h.rd (fun e => by have := hb _ e; have := h.rl; omega) (fun b cs hbb => h.or.apart hbb (by decide))
  have hd : OwnB w' w0.heap.size vd f.d := hM.own h.od (fun g hg e => by
    rcases h.od.2 with ⟨hn, _⟩ | ⟨g', cap, cur, hv, _, hgg, _⟩
    · rw [hn] at hg; simp [Value.ownBlock] at hg
    · rw [hv] at hg; simp [Value.ownBlock] at hg; subst hg
      exact h.or.apart (show Blk w g' cur 5 from hgg) (by decide) e)
  refine ⟨hS.rdr hr (fun e => h.ne e.symm) (fun b cs hb e => ?_), ⟨(frset_r f vd vr v2 l2) ▸ hF.blk.set 7 v2, h.fr.len⟩, hS.own hd (fun g hg e => by have := (World.ownsRow.lt hd g hg).1; have := h.fl; omega), ho.kept hS (fun g hg e => by have := (World.ownsRow.lt ho g hg).1; have := h.fl; omega), (h.mod.trans' hM (fun i hi e => by have := hb _ e; omega)).trans (hS.mono (fun _ _ e => .inr e)), h.rl, h.fl, h.ne⟩
  subst e
  exact hF.blk.ne hb (by decide) rfl
/-- An Ack behind its type. -/
def ackR (f : Fr) (s : RS) : Fr × RS :=
  let h := s.int; let b := h.2.int; let n := b.2.int; let r := n.2.int
  if r.2.e ≠ 0 ∨ 16 ≤ n.1 ∨ h.1 < r.1 then (f.setB b.1, r.2.fail 3)
  else ((f.setB b.1).setR (readGaps n.1 [(h.1 - r.1, h.1)] (h.1 - r.1) r.2).1, (readGaps n.1 [(h.1 - r.1, h.1)] (h.1 - r.1) r.2).2)
theorem int_lt (s : RS) : s.int.1 < 4611686018427387904 := by
  unfold RS.int
  split
  · simp
  · rename_i c r hl
    split
    · simp
    · rename_i hlt
      have h8 := lenOf_le c
      have hb : (s.bytes (lenOf c)).1.length ≤ 8 := Nat.le_trans (bytes_le s _) h8.2
      by_cases h0 : (s.bytes (lenOf c)).1 = []
      · rw [h0]; simp [valOf]
      · have h := valOf_lt _ h0
        refine Nat.lt_of_lt_of_le h ?_
        have : 256 ^ ((s.bytes (lenOf c)).1.length - 1) ≤ 256 ^ 7 := Nat.pow_le_pow_right (by omega) (by omega)
        omega
theorem RdS.nil {w0 w w' : World} {rb fb : Nat} {s : RS} {f : Fr} {vd vr : Value} (h : RdS w0 w rb fb s f vd vr) (hM : Mod (fun _ => False) w w') : RdS w0 w' rb fb s f vd vr := h.rd1 (hM.mono (fun _ _ h => h.elim)) (h.rd.kept hM (fun _ _ h => h))
/-- The state of the loop. -/
def AckJ (w wr : World) (rb fb : Nat) (g : Fr) (vd : Value) (G : List (Nat × Nat) × RS) (n k : Nat) : Prop :=
  ∃ out lo s ap cp, readGaps (n - k) out lo s = G ∧ RdS w wr rb fb s (g.setR out) vd (.slice ap (k + 1) cp) ∧ out.length = k + 1 ∧ (∃ h, out[k]? = some (lo, h)) ∧ lo < 4611686018427387904
theorem gaps_bad {n lo : Nat} {out : List (Nat × Nat)} {s : RS} (h : s.int.2.int.2.e ≠ 0 ∨ lo < 2 ∨ lo - 2 < s.int.1 ∨ lo - 2 - s.int.1 < s.int.2.int.1) : readGaps (n + 1) out lo s = (out, s.int.2.int.2.fail 3) := by
  show (if _ then _ else _) = _
  rw [if_pos h]
theorem gaps_good {n lo : Nat} {out : List (Nat × Nat)} {s : RS} (h : ¬ (s.int.2.int.2.e ≠ 0 ∨ lo < 2 ∨ lo - 2 < s.int.1 ∨ lo - 2 - s.int.1 < s.int.2.int.1)) : readGaps (n + 1) out lo s = readGaps n (out ++ [(lo - 2 - s.int.1 - s.int.2.int.1, lo - 2 - s.int.1)]) (lo - 2 - s.int.1 - s.int.2.int.1) s.int.2.int.2 := by
  show (if _ then _ else _) = _
  rw [if_neg h]
theorem noGoto_normal {Q : Exit → Act → World → Prop} {a : Act} {w : World} (h : Q .normal a w) : Exit.noGoto Q .normal a w := h
theorem ackR_bad {f : Fr} {s : RS} (h : s.int.2.int.2.int.2.int.2.e ≠ 0 ∨ 16 ≤ s.int.2.int.2.int.1 ∨ s.int.1 < s.int.2.int.2.int.2.int.1) : ackR f s = (f.setB s.int.2.int.1, s.int.2.int.2.int.2.int.2.fail 3) := by
  unfold ackR
  simp only
  rw [if_pos h]
theorem ackR_good {f : Fr} {s : RS} (h : ¬ (s.int.2.int.2.int.2.int.2.e ≠ 0 ∨ 16 ≤ s.int.2.int.2.int.1 ∨ s.int.1 < s.int.2.int.2.int.2.int.1)) : ackR f s = ((f.setB s.int.2.int.1).setR (readGaps s.int.2.int.2.int.1 [(s.int.1 - s.int.2.int.2.int.2.int.1, s.int.1)] (s.int.1 - s.int.2.int.2.int.2.int.1) s.int.2.int.2.int.2.int.2).1, (readGaps s.int.2.int.2.int.1 [(s.int.1 - s.int.2.int.2.int.2.int.1, s.int.1)] (s.int.1 - s.int.2.int.2.int.2.int.1) s.int.2.int.2.int.2.int.2).2) := by
  unfold ackR
  simp only
  rw [if_neg h]
set_option maxHeartbeats 8000000 in
set_option maxRecDepth 10000 in
theorem readack {w : World} {rb fb : Nat} {s0 : RS} {f : Fr} {vd vr : Value} (hS : RdS w w rb fb s0 f vd vr) : Calls Tryd.prog 60 #[.pointer (some ⟨rb, 0, none⟩), .pointer (some ⟨fb, 0, none⟩)] w (ReadR w rb fb (ackR f s0)) := by
  have HS0 := Lib.hid hS
  clear hS
  obtain ⟨R, hR⟩ : ∃ R, R = ackR f s0 := ⟨_, rfl⟩
  rw [← hR]
  have HR := Lib.hid hR
  clear hR
  go_enter Tryd.func60, Tryd.ntmps60
  go_wp2_with fail
  refine wp_scope_fwd ?_
  go_wp2_with fail
  refine (int_any HS0.out.rd).mono ?_
  rintro e w1 ⟨rfl, hr, hM⟩
  have HS1 := Lib.hid (HS0.out.rd1 hM hr)
  clear hr hM
  go_wp2_with fail
  refine (int_any HS1.out.rd).mono ?_
  rintro e w2 ⟨rfl, hr, hM⟩
  have HS2 := Lib.hid (HS1.out.rd1 hM hr)
  clear hr hM
  obtain ⟨d0, d1, d2, d3, d4, d5, d6, d7⟩ := HS2.out.fr.cells
  have f3 := HS2.out.fr.blk.free 3
  go_wp2_with fail
  have HS3 := Lib.hid (HS2.out.setB s0.int.2.int.1)
  clear d0 d1 d2 d3 d4 d5 d6 d7 f3
  refine (int_any HS3.out.rd).mono ?_
  rintro e w4 ⟨rfl, hr, hM⟩
  have HS4 := Lib.hid (HS3.out.rd1 hM hr)
  clear hr hM
  go_wp2_with fail
  refine (int_any HS4.out.rd).mono ?_
  rintro e w5 ⟨rfl, hr, hM⟩
  have HS5 := Lib.hid (HS4.out.rd1 hM hr)
  clear hr hM
  go_wp2_with fail
  refine (bad_any HS5.out.rd).mono ?_
  rintro e w6 ⟨rfl, rfl⟩
  have HB := Lib.hid (@ackR_bad f s0)
  have HG := Lib.hid (@ackR_good f s0)
  generalize hs5 : s0.int.2.int.2.int.2.int.2 = s5 at *
  generalize hn5 : s0.int.2.int.2.int.1 = n at *
  generalize hr5 : s0.int.2.int.2.int.2.int.1 = run at *
  generalize hh5 : s0.int.1 = hi at *
  generalize hb5 : s0.int.2.int.1 = bd at *
  clear hs5 hn5 hr5 hb5
  by_cases he : s5.e = 0
  case neg =>
    have t1 : (s5.e != 0) = true := by simpa using he
    have HE := Lib.hid (HB.out (.inl he))
    clear he
    go_wp2_with (first
      | (with_reducible refine wp_label ?_)
      | ((with_reducible refine wp_goto ?_); refine fwd_goto 0 rfl ?_)
      | fail)
    refine (fail_any 3 HS5.out.rd).mono ?_
    rintro e w7 ⟨rfl, hr, hM⟩
    have HS7 := Lib.hid (HS5.out.rd1 hM hr)
    clear hr hM
    go_wp2_with fail
    refine noGoto_normal ?_
    go_end0
    exact ⟨rfl, vd, vr, by rw [HR.out, HE.out]; exact HS7.out⟩
  case pos =>
    have t1 : (s5.e != 0) = false := by simp [he]
    by_cases hn : (16 : Int) ≤ n
    case pos =>
      have HE := Lib.hid (HB.out (.inr (.inl (by omega))))
      clear he
      go_wp2_with (first
        | (with_reducible refine wp_label ?_)
        | ((with_reducible refine wp_goto ?_); refine fwd_goto 0 rfl ?_)
        | fail)
      refine (fail_any 3 HS5.out.rd).mono ?_
      rintro e w7 ⟨rfl, hr, hM⟩
      have HS7 := Lib.hid (HS5.out.rd1 hM hr)
      clear hr hM
      go_wp2_with fail
      refine noGoto_normal ?_
      go_end0
      exact ⟨rfl, vd, vr, by rw [HR.out, HE.out]; exact HS7.out⟩
    case neg =>
      by_cases hlt : (hi : Int) < run
      case pos =>
        have HE := Lib.hid (HB.out (.inr (.inr (by omega))))
        clear he
        go_wp2_with (first
          | (with_reducible refine wp_label ?_)
          | ((with_reducible refine wp_goto ?_); refine fwd_goto 0 rfl ?_)
          | fail)
        refine (fail_any 3 HS5.out.rd).mono ?_
        rintro e w7 ⟨rfl, hr, hM⟩
        have HS7 := Lib.hid (HS5.out.rd1 hM hr)
        clear hr hM
        go_wp2_with fail
        refine noGoto_normal ?_
        go_end0
        exact ⟨rfl, vd, vr, by rw [HR.out, HE.out]; exact HS7.out⟩
      case neg =>
        have HEO := Lib.hid (HG.out (by omega))
        have hhi : hi < 4611686018427387904 := by rw [← hh5]; exact int_lt _
        obtain ⟨lo, hlo⟩ : ∃ z : Int, ((hi - run : Nat) : Int) = z := ⟨_, rfl⟩
        have hw1 : IntKind.u64.wrap ((hi : Int) - run) = lo := by rw [show (hi : Int) - run = lo by omega]; exact IntWalk.u64_in _ (by omega)
        have HLO := Lib.hid hlo
        have hn15 : (n : Int) < 16 := by omega
        have HSA := Lib.hid (HS5.out.nil ((Mod.refl (fun _ => False) _).alloc (.cells #[.int .u64 lo, .int .u64 (hi : Int)] 44)))
        obtain ⟨d0, d1, d2, d3, d4, d5, d6, d7⟩ := HSA.out.fr.cells
        have f7 := HSA.out.fr.blk.free 7
        have HOR := Lib.hid (own_one w5 w.heap.size HS5.out.mod.size (b := hi) hlo rfl)
        have HSB := Lib.hid (HSA.out.setR HOR.out)
        obtain ⟨G, hG⟩ : ∃ G, G = readGaps n [(hi - run, hi)] (hi - run) s5 := ⟨_, rfl⟩
        have HGG := Lib.hid hG
        have HJ0 : Hid (AckJ w _ rb fb (f.setB bd) vd G n 0) := ⟨_, _, _, _, _, hG.symm, HSB.out, rfl, ⟨_, rfl⟩, by omega⟩
        have t2 : decide ((16 : Int) ≤ (n : Int)) = false := decide_eq_false hn
        have t3 : decide (hi < run) = false := decide_eq_false (by omega)
        have t3' : decide ((hi : Int) < (run : Int)) = false := decide_eq_false hlt
        clear he hlo hG hhi
        go_wp2_with fail
        clear d0 d1 d2 d3 d4 d5 d6 d7 f7 HSA HOR HSB HS5 HB HG hh5
        go_loopw [43] (fun s43 wr => ∃ k : Nat, k ≤ n ∧ s43 = .int .u64 k ∧ Hid (AckJ w wr rb fb (f.setB bd) vd G n k)) (fun s43 _ => n - (intOf s43).toNat)
        case atStart => exact ⟨0, Nat.zero_le _, rfl, HJ0⟩
        case round =>
          clear HJ0
          obtain ⟨k, hk, rfl, HJ⟩ := hrel
          by_cases hkn : (k : Int) < n
          · obtain ⟨out, lq, s, ap, cp, hq1, hS, hlen, ⟨hh, hlast⟩, hlt62⟩ := HJ.out
            have HS0 := Lib.hid hS
            have HQ1 := Lib.hid hq1
            have HLEN := Lib.hid hlen
            have HLAST := Lib.hid hlast
            clear hS hq1 hlen hlast HJ
            go_wp2_with fail
            refine (int_any HS0.out.rd).mono ?_
            rintro e y1 ⟨rfl, hr, hM⟩
            have HS1 := Lib.hid (HS0.out.rd1 hM hr)
            clear hr hM
            go_wp2_with fail
            refine (int_any HS1.out.rd).mono ?_
            rintro e y2 ⟨rfl, hr, hM⟩
            have HS2 := Lib.hid (HS1.out.rd1 hM hr)
            clear hr hM
            obtain ⟨b, off, cp', hv, _, _, hcs⟩ := rg_addr HS2.out.or.rgv (by intro h; have := HLEN.out; rw [show out = [] from h] at this; simp at this)
            simp only [Value.slice.injEq] at hv
            obtain ⟨rfl, _, rfl⟩ := hv
            obtain ⟨c0, _⟩ := hcs k _ HLAST.out
            have c7 := HS2.out.fr.cells.2.2.2.2.2.2.2
            obtain ⟨m, hm⟩ : ∃ m, m = k + 1 := ⟨_, rfl⟩
            rw [← hm] at c7 HS2
            have hwm : IntKind.i64.wrap ((m : Int) - 1) = (k : Int) := by rw [show (m : Int) - 1 = k by omega]; exact IntWalk.i64_in _ (by omega)
            have hkm : (k : Int) < m := by omega
            have hk0 : (0 : Int) ≤ k := by omega
            have HM := Lib.hid hm
            obtain ⟨lz, hlz⟩ : ∃ z : Int, (lq : Int) = z := ⟨_, rfl⟩
            rw [show ((lq, hh).1 : Nat) = lq from rfl, hlz] at c0
            have hlz62 : lz < 4611686018427387904 := by omega
            have hlz0 : 0 ≤ lz := by omega
            have HLZ := Lib.hid hlz
            have HB := Lib.hid (@gaps_bad (n - (k + 1)) lq out s)
            have HG := Lib.hid (@gaps_good (n - (k + 1)) lq out s)
            have HNK : Hid (n - k = n - (k + 1) + 1) := by show _ = _; omega
            clear hcs hm hlz hlt62
            generalize s.int.1 = gp at *
            generalize s.int.2.int.1 = rn at *
            generalize s.int.2.int.2 = s2 at *
            clear HS0 HS1
            go_wp2_with fail
            have HS3 := Lib.hid (fun q => HS2.out.nil ((Mod.refl (fun _ => False) y2).drewN q))
            go_quiet (fail)
            have HS3 := Lib.hid (HS3.out nq)
            generalize y2.drewN nq = y3 at *
            go_wp2_with fail
            refine (bad_any HS3.out.rd).mono ?_
            rintro e y4 ⟨rfl, rfl⟩
            by_cases he : s2.e = 0
            case neg =>
              have t1 : (s2.e != 0) = true := by simpa using he
              have HE := Lib.hid (HB.out (.inl he))
              clear he
              go_wp2_with (first
                | (with_reducible refine wp_label ?_)
                | ((with_reducible refine wp_goto ?_); refine fwd_goto 0 rfl ?_)
                | fail)
              refine (fail_any 3 HS3.out.rd).mono ?_
              rintro e y5 ⟨rfl, hr, hM⟩
              have HS5 := Lib.hid (HS3.out.rd1 hM hr)
              clear hr hM
              go_wp2_with fail
              refine noGoto_normal ?_
              go_end0
              exact ⟨rfl, vd, .slice (some ⟨b, off, none⟩) m cp, by rw [HR.out, HEO.out, ← HGG.out, ← HQ1.out, HNK.out, HE.out]; exact HS5.out⟩
            case pos =>
              have t1 : (s2.e != 0) = false := by simp [he]
              by_cases h2 : lz < 2
              case pos =>
                have d2 : decide (lz < 2) = true := decide_eq_true h2
                have HE := Lib.hid (HB.out (.inr (.inl (by have := HLZ.out; omega))))
                clear he
                go_wp2_with (first
                  | (with_reducible refine wp_label ?_)
                  | ((with_reducible refine wp_goto ?_); refine fwd_goto 0 rfl ?_)
                  | fail)
                refine (fail_any 3 HS3.out.rd).mono ?_
                rintro e y5 ⟨rfl, hr, hM⟩
                have HS5 := Lib.hid (HS3.out.rd1 hM hr)
                clear hr hM
                go_wp2_with fail
                refine noGoto_normal ?_
                go_end0
                exact ⟨rfl, vd, .slice (some ⟨b, off, none⟩) m cp, by rw [HR.out, HEO.out, ← HGG.out, ← HQ1.out, HNK.out, HE.out]; exact HS5.out⟩
              case neg =>
                have d2 : decide (lz < 2) = false := decide_eq_false h2
                have hv1 : IntKind.u64.wrap (lz - 2) = lz - 2 := IntWalk.u64_in _ (by omega)
                by_cases h3 : lz - 2 < (gp : Int)
                case pos =>
                  have d3 : decide (lz - 2 < (gp : Int)) = true := decide_eq_true h3
                  have HE := Lib.hid (HB.out (.inr (.inr (.inl (by have := HLZ.out; omega)))))
                  clear he
                  go_wp2_with (first
                    | (with_reducible refine wp_label ?_)
                    | ((with_reducible refine wp_goto ?_); refine fwd_goto 0 rfl ?_)
                    | fail)
                  refine (fail_any 3 HS3.out.rd).mono ?_
                  rintro e y5 ⟨rfl, hr, hM⟩
                  have HS5 := Lib.hid (HS3.out.rd1 hM hr)
                  clear hr hM
                  go_wp2_with fail
                  refine noGoto_normal ?_
                  go_end0
                  exact ⟨rfl, vd, .slice (some ⟨b, off, none⟩) m cp, by rw [HR.out, HEO.out, ← HGG.out, ← HQ1.out, HNK.out, HE.out]; exact HS5.out⟩
                case neg =>
                  have d3 : decide (lz - 2 < (gp : Int)) = false := decide_eq_false h3
                  have hv2 : IntKind.u64.wrap (lz - 2 - (gp : Int)) = lz - 2 - gp := IntWalk.u64_in _ (by omega)
                  by_cases h4 : lz - 2 - (gp : Int) < (rn : Int)
                  case pos =>
                    have d4 : decide (lz - 2 - (gp : Int) < (rn : Int)) = true := decide_eq_true h4
                    have HE := Lib.hid (HB.out (.inr (.inr (.inr (by have := HLZ.out; omega)))))
                    clear he
                    go_wp2_with (first
                      | (with_reducible refine wp_label ?_)
                      | ((with_reducible refine wp_goto ?_); refine fwd_goto 0 rfl ?_)
                      | fail)
                    refine (fail_any 3 HS3.out.rd).mono ?_
                    rintro e y5 ⟨rfl, hr, hM⟩
                    have HS5 := Lib.hid (HS3.out.rd1 hM hr)
                    clear hr hM
                    go_wp2_with fail
                    refine noGoto_normal ?_
                    go_end0
                    exact ⟨rfl, vd, .slice (some ⟨b, off, none⟩) m cp, by rw [HR.out, HEO.out, ← HGG.out, ← HQ1.out, HNK.out, HE.out]; exact HS5.out⟩
                  case neg =>
                    have d4 : decide (lz - 2 - (gp : Int) < (rn : Int)) = false := decide_eq_false h4
                    have hv3 : IntKind.u64.wrap (lz - 2 - (gp : Int) - (rn : Int)) = lz - 2 - gp - rn := IntWalk.u64_in _ (by omega)
                    have HE := Lib.hid (HG.out (by have := HLZ.out; omega))
                    have HX1 : Hid (((lq - 2 - gp - rn : Nat) : Int) = lz - 2 - gp - rn) := by show _ = _; have := HLZ.out; omega
                    have HX2 : Hid (((lq - 2 - gp : Nat) : Int) = lz - 2 - gp) := by show _ = _; have := HLZ.out; omega
                    have c7' := HS3.out.fr.cells.2.2.2.2.2.2.2
                    have hAl : Mod (fun _ => False) y3 (y3.alloc (.cells #[.int .u64 (lz - 2 - gp - rn), .int .u64 (lz - 2 - gp)] 44)) := (Mod.refl _ _).alloc _
                    have HAl := Lib.hid hAl
                    have HSZ : Hid (w.heap.size ≤ (y3.alloc (.cells #[.int .u64 (lz - 2 - gp - rn), .int .u64 (lz - 2 - gp)] 44)).heap.size) := (HS3.out.nil hAl).mod.size
                    have HOW := Lib.hid (HS3.out.nil hAl).or
                    have HLM : Hid (out.length = m) := by show _ = _; rw [HLEN.out, HM.out]
                    have hm16 : m ≤ 100000 := by have := HM.out; omega
                    clear he hAl c7
                    go_wp2_with (first
                      | (at_builtin; go_must (refine wpList_append_rg rfl (.tmp 87) (.tmp 99) (by rfl) (.slice (some ⟨b, off, none⟩) m cp) out w.heap.size (by rfl) HOW.out (.slice (some ⟨y3.heap.size, 0, none⟩) 1 1) (lq - 2 - gp - rn, lq - 2 - gp) (by rfl) (rg_one y3 HX1.out HX2.out) m HLM.out hm16 HSZ.out ?_); intro ap2 cp2 W5 ho hg; have hMg : Mod (fun j => (Value.slice (some ⟨b, off, none⟩) m cp).ownBlock = some j) (y3.alloc (.cells #[.int .u64 (lz - 2 - gp - rn), .int .u64 (lz - 2 - gp)] 44)) W5 := (Mod.refl (fun j => (Value.slice (some ⟨b, off, none⟩) m cp).ownBlock = some j) _).grown hg (fun k hk _ => hk); have hF5 := hMg.blk (HS3.out.nil HAl.out).fr.blk (fun e => by have := (World.ownsRow.lt HOW.out _ e).1; have := HS3.out.fl; omega); have q7 := hF5.cellAt 7 rfl; have qf := hF5.free 7; have HGR := Lib.hid hg; have HO5 := Lib.hid ho; clear ho hg hMg hF5)
                      | fail)
                    have HS6 := Lib.hid (HS3.out.app HAl.out HO5.out HGR.out)
                    go_roundw
                    case rel => exact ⟨k + 1, by omega, by go_num, ⟨out ++ [(lq - 2 - gp - rn, lq - 2 - gp)], _, s2, ap2, cp2, by rw [← HE.out, ← HNK.out]; exact HQ1.out, by obtain rfl : m = k + 1 := HM.out; exact HS6.out, by simp [HLEN.out], ⟨lq - 2 - gp, by rw [List.getElem?_append_right (by rw [HLEN.out]; omega), HLEN.out]; simp⟩, by have := HX1.out; omega⟩⟩
                    case measure => simp [intOf]; omega
          · have hkn' : k = n := by omega
            obtain ⟨out, lq, s, ap, cp, hq1, hS, hlen, hlast, hlt62⟩ := HJ.out
            have HQ1 : Hid ((out, s) = G) := by rw [hkn', Nat.sub_self] at hq1; exact hq1
            have HS1 := Lib.hid hS
            clear hq1 hS hlen hlast hlt62 HJ
            go_wp2_with fail
            refine fwd_ret ?_
            go_end0
            exact ⟨rfl, vd, .slice ap (k + 1) cp, by rw [HR.out, HEO.out, ← HGG.out, ← HQ1.out]; exact HS1.out⟩
end Go.Proofs.YteegonadodmeeaaDoor
