/- A NewCid is read: the program's. (printed by gengav.py) -/
import Derived.Test.YteegonadodmeeaaDoorGaT
import Derived.Lib.SlBuf
namespace Go.Proofs.YteegonadodmeeaaDoor
open Go.RowKit

theorem copy_any {w : World} {g o dLen dCap : Nat} {v : Value} {l : List UInt8} {C : Array Value} {T : TypeId} (ty : TypeId) (hB : Blk w g C T) (hv : Byts w v l) (hfit : o + dLen ≤ C.size) :
    ∃ w' n, (Builtin.copy_ #[23, 23] ty #[.slice (some ⟨g, o, none⟩) dLen dCap, v]).run Tryd.prog w = .ok (.int .i64 n) w' ∧ Mod (fun k => k = g) w w' ∧ Blk w' g (C.toList.take o ++ (l.take dLen).map bv ++ C.toList.drop (o + (l.take dLen).length)).toArray T := by
  have hs : (Tryd.prog.info? 5).map (·.size) = some 1 := by
    obtain ⟨i0, hi, hz0, hz1, hz2⟩ := info_parts Tryd.info5
    rw [hi]; simp [hz1]
  by_cases hl : l = []
  · subst hl
    obtain ⟨p, cap, rfl, _, _, hn⟩ := byts_val hv
    refine ⟨w, 0, run_copy_none (P := Tryd.prog) w 23 23 ty 5 _ p _ _ 0 cap Tryd.underlying23 hs (by simp), Mod.refl _ _, ?_⟩
    simpa using hB
  · obtain ⟨b, off, cap, rfl, h1, h2, h3⟩ := byts_addr hv hl
    have hrun := run_copy_row (P := Tryd.prog) w 23 23 ty 5 g o dLen dCap ⟨b, off, none⟩ l.length cap C T ((l.take dLen).map bv) Tryd.underlying23 hs hB
      (by rw [List.length_map, List.length_take, Nat.min_comm])
      (fun j u hu => by
        rw [List.getElem?_map] at hu
        obtain ⟨x, hx, rfl⟩ := Option.map_eq_some_iff.1 hu
        rw [List.getElem?_take] at hx
        split at hx
        · rw [Addr.add_lit]; exact h3 j x hx
        · simp at hx) (by rw [List.length_map, List.length_take]; omega) (bv_one _)
    rw [List.length_map] at hrun
    refine ⟨_, _, hrun, ⟨rfl, rfl, rfl, by simp [World.setRow], fun k _ hk => setRow_other w g k _ hk⟩, ?_⟩
    have := setRow_heap w g C (C.toList.take o ++ (l.take dLen).map bv ++ C.toList.drop (o + ((l.take dLen).map bv).length)).toArray T _ hB
    rw [List.length_map] at this
    exact this
theorem fr_tok16 (f : Fr) (vd vr : Value) (l : List UInt8) (hp : f.t.length = 16) (hl : l.length = 16) : ((frC f vd vr).toList.take 8 ++ (l.take 16).map bv ++ (frC f vd vr).toList.drop (8 + (l.take 16).length)).toArray = frC (f.setT l) vd vr := by
  apply Array.toList_inj.1
  have e : l.take 16 = l := List.take_of_length_le (by omega)
  rw [e, List.drop_of_length_le (by simp [frC, frL, hp, hl])]
  simp [frC, frL, Fr.setT]
theorem fr_tok0 (f : Fr) (vd vr : Value) : ((frC f vd vr).toList.take 8 ++ (([] : List UInt8).take 16).map bv ++ (frC f vd vr).toList.drop (8 + (([] : List UInt8).take 16).length)).toArray = frC f vd vr := by
  apply Array.toList_inj.1
  simp
def tokOr (f : Fr) (l : List UInt8) : Fr := if l.length = 16 then f.setT l else f
theorem bytes16 (s : RS) : (s.bytes 16).1.length = 16 ∨ (s.bytes 16).1 = [] := by
  unfold RS.bytes
  split
  · right; rfl
  · split
    · right; rfl
    · left; simp; omega
theorem tokOr_f (f : Fr) (l : List UInt8) : (tokOr f l).d = f.d ∧ (tokOr f l).rs = f.rs := by unfold tokOr; split <;> exact ⟨rfl, rfl⟩
theorem RdS.setTok {w0 w w' : World} {rb fb : Nat} {s : RS} {f : Fr} {vd vr : Value} (h : RdS w0 w rb fb s f vd vr) {l : List UInt8} (hl : l.length = 16 ∨ l = []) (hM : Mod (fun k => k = fb) w w') (hb : Blk w' fb ((frC f vd vr).toList.take 8 ++ (l.take 16).map bv ++ (frC f vd vr).toList.drop (8 + (l.take 16).length)).toArray 27) : RdS w0 w' rb fb s (tokOr f l) vd vr := by
  have hfr : FrB w' fb (tokOr f l) vd vr := by
    unfold tokOr
    rcases hl with hl | rfl
    · rw [if_pos hl]
      rw [fr_tok16 f vd vr l h.fr.len hl] at hb
      exact ⟨hb, hl⟩
    · rw [fr_tok0] at hb
      exact ⟨hb, h.fr.len⟩
  refine ⟨hM.rdr h.rd (fun e => h.ne e.symm) (fun b cs hbb e => ?_), hfr, ?_, ?_, h.mod.trans (hM.mono (fun _ _ e => .inr e)), h.rl, h.fl, h.ne⟩
  · subst e
    exact h.fr.blk.ne hbb (by decide) rfl
  · rw [(tokOr_f f l).1]
    exact hM.own h.od (fun g hg e => by have := (World.ownsRow.lt h.od g hg).1; have := h.fl; omega)
  · rw [(tokOr_f f l).2]
    exact h.or.kept hM (fun g hg e => by have := (World.ownsRow.lt h.or g hg).1; have := h.fl; omega)
/-- A NewCid behind its type. -/
def cidR (f : Fr) (s : RS) : Fr × RS :=
  let b := s.int.2.int.2.byte
  let d := b.2.bytes b.1.toNat
  let t := d.2.bytes 16
  (tokOr (((f.setId s.int.1).setA s.int.2.int.1).setD d.1) t.1, t.2)
set_option maxHeartbeats 4000000 in
set_option maxRecDepth 10000 in
theorem read35 : Reads 81 cidR := by
  intro w rb fb s0 f vd vr hS hl
  have HS0 := Lib.hid hS
  clear hS hl
  obtain ⟨R, hR⟩ : ∃ R, R = cidR f s0 := ⟨_, rfl⟩
  rw [← hR]
  have HR := Lib.hid hR
  clear hR
  go_enter Tryd.func81, Tryd.ntmps81
  go_wp2_with fail
  refine (int_any HS0.out.rd).mono ?_
  rintro e w1 ⟨rfl, hr, hM⟩
  have HS1 := Lib.hid (HS0.out.rd1 hM hr)
  clear hr hM
  go_wp2_with fail
  refine (int_any HS1.out.rd).mono ?_
  rintro e w2 ⟨rfl, hr, hM⟩
  have HS2 := Lib.hid (HS1.out.rd1 hM hr)
  clear hr hM
  go_wp2_with fail
  refine (byte_any HS2.out.rd).mono ?_
  rintro e w3 ⟨rfl, hr, hM⟩
  have HS3 := Lib.hid (HS2.out.rd1 hM hr)
  clear hr hM
  have hx := (s0.int.2.int.2.byte.1).toNat_lt
  have hw : IntKind.u64.wrap ((s0.int.2.int.2.byte.1.toNat : Nat) : Int) = ((s0.int.2.int.2.byte.1.toNat : Nat) : Int) := IntWalk.u64_in _ (by omega)
  generalize hbn : s0.int.2.int.2.byte.1.toNat = bn at *
  have HBN := Lib.hid hbn
  clear hbn hx
  go_wp2_with fail
  refine (bytes_any bn HS3.out.rd).mono ?_
  rintro e w4 ⟨v, rfl, ho, hr, hM⟩
  have HS4 := Lib.hid (HS3.out.rd1 hM hr)
  have HO := Lib.hid (ho.mono (B' := w.heap.size) HS3.out.mod.size)
  obtain ⟨a0, c0, rfl, _⟩ := byts_val ho.byts
  clear ho hr hM
  generalize hll : ((s0.int.2.int.2.byte.2.bytes bn).1).length = ll at *
  clear hll
  obtain ⟨d0, d1, d2, d3, d4, d5, d6, d7⟩ := HS4.out.fr.cells
  have f1 := HS4.out.fr.blk.free 1
  have f2 := HS4.out.fr.blk.free 2
  have f6 := HS4.out.fr.blk.free 6
  go_wp2_with fail
  have HS5 := Lib.hid (((HS4.out.setId s0.int.1).setA s0.int.2.int.1).setD ((HS4.out.setId s0.int.1).own (HS4.out.own HO.out ((Mod.refl _ _).setCell (p := ⟨fb, _, none⟩) (fun _ => .inr rfl) _)) ((Mod.refl _ _).setCell (p := ⟨fb, _, none⟩) (fun _ => .inr rfl) _)))
  clear d0 d1 d2 d3 d4 d5 d6 d7 f1 f2 f6 HO hw
  generalize ((w4.setCell ⟨fb, 1, none⟩ (.int .u64 (s0.int.1 : Int))).setCell ⟨fb, 2, none⟩ (.int .u64 (s0.int.2.int.1 : Int))).setCell ⟨fb, 6, none⟩ (.slice a0 ll c0) = w5 at *
  generalize hg5 : (((f.setId s0.int.1).setA s0.int.2.int.1).setD (s0.int.2.int.2.byte.2.bytes bn).1) = f5 at *
  have HG5 := Lib.hid hg5
  clear hg5
  obtain ⟨t, ht⟩ : ∃ t, t = (s0.int.2.int.2.byte.2.bytes bn).2.bytes 16 := ⟨_, rfl⟩
  have HBY := Lib.hid (fun X (h : RdS w X rb fb (s0.int.2.int.2.byte.2.bytes bn).2 f5 (.slice a0 ll c0) vr) => bytes_any 16 h.rd)
  rw [← ht] at HBY
  have HT := Lib.hid ht
  have H16 := Lib.hid (bytes16 (s0.int.2.int.2.byte.2.bytes bn).2)
  rw [← ht] at H16
  clear ht
  generalize hs5 : (s0.int.2.int.2.byte.2.bytes bn).2 = s5 at *
  have HS55 := Lib.hid hs5
  clear hs5
  refine wp_region_held_drew (S := fun X => Mod (fun j => j = rb ∨ j = fb) w X) (by kernel_rfl) HS5.out.mod.drew (fun hS => ?_)
  refine takeH (i := 0) (v := .pointer (some ⟨fb, 0, none⟩)) (some 22) rfl rfl (by kernel_rfl) (by kernel_rfl) (by kernel_rfl) (fun _ _ _ h => h) (Or.inl ⟨by rfl, fun X hX => ?_⟩) hS ?_
  · go_simp
  (try go_frame)
  refine takeH (i := 1) (v := .pointer (some ⟨fb, 0, none⟩)) (some 23) rfl rfl (by kernel_rfl) (by kernel_rfl) (by kernel_rfl) (fun _ _ _ h => h) (Or.inl ⟨by rfl, fun X hX => ?_⟩) hS ?_
  · go_simp
  (try go_frame)
  refine takeH (i := 2) (v := .pointer (some ⟨fb, 8, none⟩)) (some 24) rfl rfl (by kernel_rfl) (by kernel_rfl) (by kernel_rfl) (fun _ _ _ h => h) (Or.inl ⟨by rfl, fun X hX => ?_⟩) hS ?_
  · go_simp
  (try go_frame)
  refine takeH (i := 3) (v := .slice (some ⟨fb, 8, none⟩) 16 16) (some 25) rfl rfl (by kernel_rfl) (by kernel_rfl) (by kernel_rfl) (fun _ _ _ h => h) (Or.inl ⟨by rfl, fun X hX => ?_⟩) hS ?_
  · go_simp
  (try go_frame)
  refine takeH (i := 4) (v := .pointer (some ⟨rb, 0, none⟩)) (some 26) rfl rfl (by kernel_rfl) (by kernel_rfl) (by kernel_rfl) (fun _ _ _ h => h) (Or.inl ⟨by rfl, fun X hX => ?_⟩) hS ?_
  · go_simp
  (try go_frame)
  have hd5 : RdS w w5.drew rb fb s5 f5 (.slice a0 ll c0) vr := HS5.out.rd1 (Mod.refl _ _).drew (HS5.out.rd.kept (S := fun _ => False) ((Mod.refl _ _).drew) (fun _ _ h => h))
  refine wpAnyH_ready (rs := [5]) (by kernel_rfl) (by simp) ?_
  refine AllReadyH.cons rfl (fun K hK => ?_) AllReadyH.nil
  go_simp
  refine (HBY.out _ hd5).mono ?_
  rintro e w6 ⟨v, rfl, ho, hr, hM⟩
  have hS6 := hd5.rd1 hM hr
  have hcp := copy_any 3 (dLen := 16) (dCap := 16) hS6.fr.blk ho.byts (o := 8) (by rw [frC_size _ _ _ hS6.fr.len]; omega)
  obtain ⟨w7, n7, hrun, hM7, hB7⟩ := hcp
  have hS7 := hS6.setTok H16.out hM7 hB7
  obtain ⟨a1, c1, rfl, _⟩ := byts_val ho.byts
  refine hK.out _ _ hS6.mod (fun hS => ?_)
  clear hK K
  refine wpAnyH_ready (rs := [6]) (by kernel_rfl) (by simp) ?_
  refine AllReadyH.cons rfl (fun K hK => ?_) AllReadyH.nil
  go_simp
  refine hK.out _ _ hS7.mod (fun hS => ?_)
  clear hK K
  refine wpAnyH_done (by kernel_rfl) ?_ _
  have HS7 := Lib.hid hS7
  clear hS7 hS6 hrun hM7 hB7 ho hr hM hd5 hS
  go_wp2
  go_end0
  refine ⟨rfl, .slice a0 ll c0, vr, ?_⟩
  rw [HR.out]
  unfold cidR
  simp only [HBN.out, HS55.out]
  rw [← HG5.out, HT.out] at HS7
  exact HS7.out
end Go.Proofs.YteegonadodmeeaaDoor
