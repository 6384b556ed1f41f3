/- Parts of the proof: SoH StF. -/
import Derived.Test.YtolgeghdkoodnaaGreatDoorP12
import Derived.Test.YtolgeghdkoodnaaGreatDoorP14
import Derived.Deep.QuietTactic
import Derived.BigQuiet
set_option maxRecDepth 100000
namespace Go.Proofs.YtolgeghdkoodnaaGreatDoor
open Go.RowKit
theorem ackf_any (x : UInt8) (w : World) : Calls Tryz.prog 83 #[.int .u8 (x.toNat : Int)] w fun e w' => w = w' ∧ e = .returned (.int .u8 ((ackF x).toNat : Int)) := by
 by_cases h : x = 0
 ·subst h
  go_enter Tryz.func83, Tryz.ntmps83
  go_wp2_with fail
  go_ret
  exact ⟨rfl, rfl⟩
 ·have HR : Hid (((ackF x).toNat : Int) = 3) := Lib.hid (by unfold ackF; rw [if_neg h]; rfl)
  have t : ((x.toNat : Int) == 0) = false := by
   simp only [beq_eq_false_iff_ne, ne_eq]
   exact fun e => h (UInt8.toNat_inj.1 (by show x.toNat = 0; omega))
  generalize (x.toNat : Int) = z at *
  go_enter Tryz.func83, Tryz.ntmps83
  go_wp2_with fail
  go_ret
  exact ⟨rfl, by rw [HR.out]; rfl⟩
theorem lostf_any (x : UInt8) (w : World) : Calls Tryz.prog 82 #[.int .u8 (x.toNat : Int)] w fun e w' => w = w' ∧ e = .returned (.int .u8 ((lostF x).toNat : Int)) := by
 by_cases h : x = 1
 ·subst h
  go_enter Tryz.func82, Tryz.ntmps82
  go_wp2_with fail
  go_ret
  exact ⟨rfl, rfl⟩
 ·have HR : Hid ((lostF x).toNat = x.toNat) := Lib.hid (by unfold lostF; rw [if_neg h])
  have t : ((x.toNat : Int) == 1) = false := by
   simp only [beq_eq_false_iff_ne, ne_eq]
   exact fun e => h (UInt8.toNat_inj.1 (by show x.toNat = 1; omega))
  have HX : Hid (∃ z : Int, z = (x.toNat : Int)) := Lib.hid ⟨_, rfl⟩
  clear HX
  rw [HR.out]
  generalize (x.toNat : Int) = z at *
  go_enter Tryz.func82, Tryz.ntmps82
  go_wp2_with fail
  go_ret
  exact ⟨rfl, rfl⟩
theorem mapR_over (f : UInt8 → UInt8) (a t : Nat) (s : List UInt8) : mapR f a (min t s.length) s = mapR f a t s := by
 apply List.ext_getElem?
 intro i
 rw [mapR_get, mapR_get]
 cases h : s[i]? with
 | none => rfl
 | some x =>
  have hi := (List.getElem?_eq_some_iff.1 h).1
  rw [Option.map_some, Option.map_some]
  by_cases c : a ≤ i ∧ i < t
  ·rw [if_pos c, if_pos ⟨c.1, by omega⟩]
  ·rw [if_neg c, if_neg (by omega)]
set_option maxHeartbeats 1000000 in
theorem turn_acked {B : Nat} {w : World} {ob : Nat} {bv sv : Value} {o : OB} (q : OBuf B w ob bv sv o) (off n : Nat) (en : Bool) (hn : (n : Int) ≤ 1000000000) :
  Calls Tryz.prog 81 #[.pointer (some ⟨ob, 0, none⟩), .int .u64 (off : Int), .int .i64 (n : Int), .bool en, .func (.func 83) #[] #[]] w fun e w' => e = .returned (.tuple #[]) ∧ OBuf B w' ob bv sv (turnO ackF off n en o) ∧ Mod (OS ob bv sv) w w' := by
 obtain ⟨sa, cap, rfl, hcap, hcm, -⟩ := Sl.val q.s.byts
 have hlen : o.s.length ≤ 2000 := by rw [q.len]; exact q.most
 obtain ⟨A, hA⟩ : ∃ A, A = min off o.s.length := ⟨_, rfl⟩
 obtain ⟨M, hM⟩ : ∃ M, M = min (A + n) o.s.length := ⟨_, rfl⟩
 have HQ := Lib.hid q
 have HT : Hid (turnO ackF off n en o = { o with s := mapR ackF A M o.s, e := if en && o.fin then ackF o.e else o.e }) := Lib.hid (by unfold turnO; rw [hM, mapR_over, hA])
 have c1 : w.cell? ⟨ob, 1, none⟩ = some (.slice sa o.s.length cap) := q.blk.cellAt 1 rfl
 have h1 : IntKind.u64.wrap (o.s.length : Int) = (o.s.length : Int) := IntWalk.u64_in _ (by omega)
 have h2 : min (off : Int) (o.s.length : Int) = (A : Int) := by omega
 have h3 : IntKind.i64.wrap (A : Int) = (A : Int) := IntWalk.i64_in _ (by omega)
 have HL := Lib.hid (And.intro hlen (And.intro hcap (And.intro hA hM)))
 have n1 : (A : Int) ≤ 2000 := by omega
 have n2 : (0 : Int) ≤ (A : Int) := by omega
 have n3 : (o.s.length : Int) ≤ 2000 := by omega
 clear q hlen hcap hcm hA hM
 go_enter Tryz.func81, Tryz.ntmps81
 go_wp2_with fail
 clear h1 h2 h3
 go_loopw [11] (fun i wr => ∃ k : Nat, (A ≤ k ∧ k ≤ M) ∧ i = .int .i64 (k : Int) ∧ Hid (OBuf B wr ob bv (.slice sa o.s.length cap) { o with s := mapR ackF A k o.s } ∧ Mod (OS ob bv (.slice sa o.s.length cap)) w wr)) (fun i _ => M - (intOf i).toNat)
 case atStart =>
  refine ⟨A, ⟨Nat.le_refl _, by have := HL.out; omega⟩, rfl, Lib.hid ⟨?_, Mod.refl _ _⟩⟩
  rw [mapR_nil _ _ _ _ (Nat.le_refl _)]
  exact HQ.out
 case round =>
  obtain ⟨k, hk, rfl, HI⟩ := hrel
  have HK := Lib.hid hk
  have k0 : (0 : Int) ≤ (k : Int) := by omega
  have k1 : (k : Int) ≤ 2000 := by have := HL.out; omega
  have k2 : IntKind.i64.wrap ((k : Int) - (A : Int)) = (k : Int) - (A : Int) := IntWalk.i64_in _ (by omega)
  have c1 : wr.cell? ⟨ob, 1, none⟩ = some (.slice sa o.s.length cap) := HI.out.1.blk.cellAt 1 rfl
  by_cases hkt : k < M
  ·have hkn : k < o.s.length := by have := HL.out; omega
   obtain ⟨g, hg⟩ : ∃ g, sa = some ⟨g, 0, none⟩ := by
    rcases HI.out.1.s.2 with ⟨-, h⟩ | ⟨g, cap', cur, he, _⟩
    ·have h' : (mapR ackF A k o.s).length = 0 := h
     rw [mapR_len] at h'
     omega
    ·simp only [Value.slice.injEq] at he
     exact ⟨g, he.1⟩
   subst hg
   obtain ⟨x, hx⟩ : ∃ x, o.s[k]? = some x := ⟨_, List.getElem?_eq_getElem hkn⟩
   have hp := HI.out.1.s.place (i := k) (x := x) (by dsimp only; rw [mapR_at]; exact hx)
   have HX := Lib.hid hx
   have z1 : (k : Int) < (o.s.length : Int) := by omega
   have z2 : decide ((k : Int) - (A : Int) < (n : Int)) = true := by have := HL.out; simp; omega
   have HMD : Hid (Mod (fun _ => False) wr wr.drew) := Lib.hid (Mod.refl _ _).drew
   have d1 := HMD.out.cellAt c1 (fun e => e)
   have HG : Hid (wr.drew.heap = wr.heap) := Lib.hid rfl
   have p1 := HMD.out.cellAt hp.1 (fun e => e)
   have HF := Lib.hid (HI.out.1.still HMD.out)
   have p2 := (HF.out.s.place (i := k) (x := x) (by dsimp only; rw [mapR_at]; exact hx)).2
   have CF := Lib.hid (fun X => ackf_any x X)
   have HMW := Lib.hid (HI.out.2.trans (HMD.out.mono (fun _ _ h => h.elim)))
   have HKT := Lib.hid hkt
   clear hx hk hkn hp hkt
   generalize o.s.length = n' at *
   generalize (x.toNat : Int) = z at *
   go_upto_region 5 with fail
   clear c1 HI
   refine wp_region_last (S := fun X => wr.drew = X) 15 (by kernel_rfl) rfl (fun hS => ?_)
   generalize wr.drew = Y at *
   refine' tkL 0 _ (some 40) rfl rfl (by kernel_rfl) (fun _ _ _ => id) (Or.inl ⟨by rfl, fun X hX => ?_⟩) hS ?_; rotate_left
   ·go_simp; exact rfl
   (try go_frame); refine' tkL 1 _ (some 41) rfl rfl (by kernel_rfl) (fun _ _ _ => id) (Or.inl ⟨by rfl, fun X hX => ?_⟩) hS ?_; rotate_left
   ·go_simp; exact rfl
   (try go_frame); refine' tkL 2 _ (some 42) rfl rfl (by kernel_rfl) (fun _ _ _ => id) (Or.inl ⟨by rfl, fun X hX => ?_⟩) hS ?_; rotate_left
   ·go_simp; exact rfl
   (try go_frame); refine' tkL 3 _ (some 43) rfl rfl (by kernel_rfl) (fun _ _ _ => id) (Or.inl ⟨by rfl, fun X hX => ?_⟩) hS ?_; rotate_left
   ·have hX := (show Y = X from hX); subst hX; go_simp; exact rfl
   (try go_frame); refine' tkL 4 _ (some 44) rfl rfl (by kernel_rfl) (fun _ _ _ => id) (Or.inl ⟨by rfl, fun X hX => ?_⟩) hS ?_; rotate_left
   ·go_simp; exact rfl
   (try go_frame); refine' tkL 5 _ (some 45) rfl rfl (by kernel_rfl) (fun _ _ _ => id) (Or.inl ⟨by rfl, fun X hX => ?_⟩) hS ?_; rotate_left
   ·go_simp; exact rfl
   (try go_frame); refine' tkL 6 _ (some 46) rfl rfl (by kernel_rfl) (fun _ _ _ => id) (Or.inl ⟨by rfl, fun X hX => ?_⟩) hS ?_; rotate_left
   ·go_simp; exact rfl
   (try go_frame); refine' tkL 7 _ (some 47) rfl rfl (by kernel_rfl) (fun _ _ _ => id) (Or.inl ⟨by rfl, fun X hX => ?_⟩) hS ?_; rotate_left
   ·go_simp; exact rfl
   (try go_frame); refine' tkL 8 _ (some 48) rfl rfl (by kernel_rfl) (fun _ _ _ => id) (Or.inl ⟨by rfl, fun X hX => ?_⟩) hS ?_; rotate_left
   ·go_simp; exact rfl
   (try go_frame); refine' tkL 9 _ (some 49) rfl rfl (by kernel_rfl) (fun _ _ _ => id) (Or.inl ⟨by rfl, fun X hX => ?_⟩) hS ?_; rotate_left
   ·have hX := (show Y = X from hX); subst hX; go_simp; exact rfl
   (try go_frame); refine' tkL 10 _ (some 50) rfl rfl (by kernel_rfl) (fun _ _ _ => id) (Or.inl ⟨by rfl, fun X hX => ?_⟩) hS ?_; rotate_left
   ·go_simp; exact rfl
   (try go_frame); refine' tkL 11 _ (some 51) rfl rfl (by kernel_rfl) (fun _ _ _ => id) (Or.inl ⟨by rfl, fun X hX => ?_⟩) hS ?_; rotate_left
   ·go_simp; exact rfl
   (try go_frame); refine' tkL 12 _ (some 52) rfl rfl (by kernel_rfl) (fun _ _ _ => id) (Or.inl ⟨by rfl, fun X hX => ?_⟩) hS ?_; rotate_left
   ·have hX := (show Y = X from hX); subst hX; go_simp; exact rfl
   (try go_frame); refine wpAnyL.ready (rs := [13]) (by kernel_rfl) (by simp) ?_
   refine (AllReadyL.cons (o := ⟨some 53, _, _, _, _, none⟩) rfl (by decide) (fun K hK => ?_) AllReadyL.nil)
   go_simp
   refine (CF.out Y).mono ?_
   rintro e w2 ⟨rfl, rfl⟩
   refine hK.out _ _ rfl (fun hS => ?_)
   clear hK K
   refine' tkL 14 _ (some 54) rfl rfl (by kernel_rfl) (fun _ _ _ => id) (Or.inl ⟨by rfl, fun X hX => ?_⟩) hS ?_; rotate_left
   ·go_simp; exact rfl
   (try go_frame); refine wpAnyL.ready (rs := [15]) (by kernel_rfl) (by simp) ?_
   refine AllReadyL.closing (o := ⟨none, _, _, _, _, none⟩) rfl (fun K hK => ?_)
   go_simp
   refine hK.out _ _ ?_
   clear hK K
   refine wpAnyL.done (by kernel_rfl) ?_ _
   go_wp2_with fail
   go_roundw
   case rel =>
    exact ⟨k + 1, ⟨by have := HK.out; omega, HKT.out⟩, by go_num, Lib.hid ⟨HF.out.mark ackF A HK.out.1 rfl HX.out, HMW.out.setCell (p := ⟨g, k, none⟩) (fun _ => .inr (.inr rfl)) _⟩⟩
   case measure => have := HKT.out; simp [intOf]; omega
  ·obtain rfl : k = M := by omega
   have c2 : wr.cell? ⟨ob, 2, none⟩ = some (.bool o.fin) := HI.out.1.blk.cellAt 2 rfl
   have c3 : wr.cell? ⟨ob, 3, none⟩ = some (.int .u8 (o.e.toNat : Int)) := HI.out.1.blk.cellAt 3 rfl
   have f3 : wr.frozen? ⟨ob, 3, none⟩ = false := HI.out.1.blk.free 3
   have CF := Lib.hid (fun X => ackf_any o.e X)
   have HE := Lib.hid (HI.out.1.endE (ackF o.e))
   have HMS : Hid (∀ v, Mod (OS ob bv (.slice sa o.s.length cap)) w (wr.setCell ⟨ob, 3, none⟩ v)) := Lib.hid (fun v => HI.out.2.setCell (p := ⟨ob, 3, none⟩) (fun _ => .inl rfl) v)
   have t1 : decide ((k : Int) < (o.s.length : Int)) = true ∧ decide ((k : Int) - (A : Int) < (n : Int)) = false ∨ decide ((k : Int) < (o.s.length : Int)) = false := by
    by_cases h : k < o.s.length
    ·have := HL.out; exact .inl ⟨by simp; omega, by simp; omega⟩
    ·exact .inr (by simp; omega)
   have t2 : decide (k < o.s.length) = decide ((k : Int) < (o.s.length : Int)) := by simp
   have HTT := Lib.hid t2
   clear hk hkt t2
   rcases t1 with ⟨t1, t1'⟩ | t1
   all_goals (
    have t2 := HTT.out.trans t1
    cases en with
    | false =>
     go_wp2_with fail
     go_end0
     rw [HT.out]
     exact ⟨rfl, HI.out.1, HI.out.2⟩
    | true =>
     cases hf : o.fin with
     | false =>
      rw [hf] at c2
      have HH := Lib.hid hf
      clear hf
      go_wp2_with fail
      go_end0
      rw [HT.out, HH.out]
      exact ⟨rfl, by have := HI.out.1; rw [HH.out] at *; exact this, HI.out.2⟩
     | true =>
      rw [hf] at c2
      have HH := Lib.hid hf
      clear hf
      go_wp2_with (first
       | (go_at_call 83; (with_reducible refine (CF.out _).mono ?_); rintro e w2 ⟨rfl, rfl⟩)
       | fail)
      go_end0
      rw [HT.out, HH.out]
      exact ⟨rfl, by have := HE.out; rw [HH.out] at *; exact this, HMS.out _⟩)
set_option maxHeartbeats 1000000 in
theorem turn_lost {B : Nat} {w : World} {ob : Nat} {bv sv : Value} {o : OB} (q : OBuf B w ob bv sv o) (off n : Nat) (en : Bool) (hn : (n : Int) ≤ 1000000000) :
  Calls Tryz.prog 81 #[.pointer (some ⟨ob, 0, none⟩), .int .u64 (off : Int), .int .i64 (n : Int), .bool en, .func (.func 82) #[] #[]] w fun e w' => e = .returned (.tuple #[]) ∧ OBuf B w' ob bv sv (turnO lostF off n en o) ∧ Mod (OS ob bv sv) w w' := by
 obtain ⟨sa, cap, rfl, hcap, hcm, -⟩ := Sl.val q.s.byts
 have hlen : o.s.length ≤ 2000 := by rw [q.len]; exact q.most
 obtain ⟨A, hA⟩ : ∃ A, A = min off o.s.length := ⟨_, rfl⟩
 obtain ⟨M, hM⟩ : ∃ M, M = min (A + n) o.s.length := ⟨_, rfl⟩
 have HQ := Lib.hid q
 have HT : Hid (turnO lostF off n en o = { o with s := mapR lostF A M o.s, e := if en && o.fin then lostF o.e else o.e }) := Lib.hid (by unfold turnO; rw [hM, mapR_over, hA])
 have c1 : w.cell? ⟨ob, 1, none⟩ = some (.slice sa o.s.length cap) := q.blk.cellAt 1 rfl
 have h1 : IntKind.u64.wrap (o.s.length : Int) = (o.s.length : Int) := IntWalk.u64_in _ (by omega)
 have h2 : min (off : Int) (o.s.length : Int) = (A : Int) := by omega
 have h3 : IntKind.i64.wrap (A : Int) = (A : Int) := IntWalk.i64_in _ (by omega)
 have HL := Lib.hid (And.intro hlen (And.intro hcap (And.intro hA hM)))
 have n1 : (A : Int) ≤ 2000 := by omega
 have n2 : (0 : Int) ≤ (A : Int) := by omega
 have n3 : (o.s.length : Int) ≤ 2000 := by omega
 clear q hlen hcap hcm hA hM
 go_enter Tryz.func81, Tryz.ntmps81
 go_wp2_with fail
 clear h1 h2 h3
 go_loopw [11] (fun i wr => ∃ k : Nat, (A ≤ k ∧ k ≤ M) ∧ i = .int .i64 (k : Int) ∧ Hid (OBuf B wr ob bv (.slice sa o.s.length cap) { o with s := mapR lostF A k o.s } ∧ Mod (OS ob bv (.slice sa o.s.length cap)) w wr)) (fun i _ => M - (intOf i).toNat)
 case atStart =>
  refine ⟨A, ⟨Nat.le_refl _, by have := HL.out; omega⟩, rfl, Lib.hid ⟨?_, Mod.refl _ _⟩⟩
  rw [mapR_nil _ _ _ _ (Nat.le_refl _)]
  exact HQ.out
 case round =>
  obtain ⟨k, hk, rfl, HI⟩ := hrel
  have HK := Lib.hid hk
  have k0 : (0 : Int) ≤ (k : Int) := by omega
  have k1 : (k : Int) ≤ 2000 := by have := HL.out; omega
  have k2 : IntKind.i64.wrap ((k : Int) - (A : Int)) = (k : Int) - (A : Int) := IntWalk.i64_in _ (by omega)
  have c1 : wr.cell? ⟨ob, 1, none⟩ = some (.slice sa o.s.length cap) := HI.out.1.blk.cellAt 1 rfl
  by_cases hkt : k < M
  ·have hkn : k < o.s.length := by have := HL.out; omega
   obtain ⟨g, hg⟩ : ∃ g, sa = some ⟨g, 0, none⟩ := by
    rcases HI.out.1.s.2 with ⟨-, h⟩ | ⟨g, cap', cur, he, _⟩
    ·have h' : (mapR lostF A k o.s).length = 0 := h
     rw [mapR_len] at h'
     omega
    ·simp only [Value.slice.injEq] at he
     exact ⟨g, he.1⟩
   subst hg
   obtain ⟨x, hx⟩ : ∃ x, o.s[k]? = some x := ⟨_, List.getElem?_eq_getElem hkn⟩
   have hp := HI.out.1.s.place (i := k) (x := x) (by dsimp only; rw [mapR_at]; exact hx)
   have HX := Lib.hid hx
   have z1 : (k : Int) < (o.s.length : Int) := by omega
   have z2 : decide ((k : Int) - (A : Int) < (n : Int)) = true := by have := HL.out; simp; omega
   have HMD : Hid (Mod (fun _ => False) wr wr.drew) := Lib.hid (Mod.refl _ _).drew
   have d1 := HMD.out.cellAt c1 (fun e => e)
   have HG : Hid (wr.drew.heap = wr.heap) := Lib.hid rfl
   have p1 := HMD.out.cellAt hp.1 (fun e => e)
   have HF := Lib.hid (HI.out.1.still HMD.out)
   have p2 := (HF.out.s.place (i := k) (x := x) (by dsimp only; rw [mapR_at]; exact hx)).2
   have CF := Lib.hid (fun X => lostf_any x X)
   have HMW := Lib.hid (HI.out.2.trans (HMD.out.mono (fun _ _ h => h.elim)))
   have HKT := Lib.hid hkt
   clear hx hk hkn hp hkt
   generalize o.s.length = n' at *
   generalize (x.toNat : Int) = z at *
   go_upto_region 5 with fail
   clear c1 HI
   refine wp_region_last (S := fun X => wr.drew = X) 15 (by kernel_rfl) rfl (fun hS => ?_)
   generalize wr.drew = Y at *
   refine' tkL 0 _ (some 40) rfl rfl (by kernel_rfl) (fun _ _ _ => id) (Or.inl ⟨by rfl, fun X hX => ?_⟩) hS ?_; rotate_left
   ·go_simp; exact rfl
   (try go_frame); refine' tkL 1 _ (some 41) rfl rfl (by kernel_rfl) (fun _ _ _ => id) (Or.inl ⟨by rfl, fun X hX => ?_⟩) hS ?_; rotate_left
   ·go_simp; exact rfl
   (try go_frame); refine' tkL 2 _ (some 42) rfl rfl (by kernel_rfl) (fun _ _ _ => id) (Or.inl ⟨by rfl, fun X hX => ?_⟩) hS ?_; rotate_left
   ·go_simp; exact rfl
   (try go_frame); refine' tkL 3 _ (some 43) rfl rfl (by kernel_rfl) (fun _ _ _ => id) (Or.inl ⟨by rfl, fun X hX => ?_⟩) hS ?_; rotate_left
   ·have hX := (show Y = X from hX); subst hX; go_simp; exact rfl
   (try go_frame); refine' tkL 4 _ (some 44) rfl rfl (by kernel_rfl) (fun _ _ _ => id) (Or.inl ⟨by rfl, fun X hX => ?_⟩) hS ?_; rotate_left
   ·go_simp; exact rfl
   (try go_frame); refine' tkL 5 _ (some 45) rfl rfl (by kernel_rfl) (fun _ _ _ => id) (Or.inl ⟨by rfl, fun X hX => ?_⟩) hS ?_; rotate_left
   ·go_simp; exact rfl
   (try go_frame); refine' tkL 6 _ (some 46) rfl rfl (by kernel_rfl) (fun _ _ _ => id) (Or.inl ⟨by rfl, fun X hX => ?_⟩) hS ?_; rotate_left
   ·go_simp; exact rfl
   (try go_frame); refine' tkL 7 _ (some 47) rfl rfl (by kernel_rfl) (fun _ _ _ => id) (Or.inl ⟨by rfl, fun X hX => ?_⟩) hS ?_; rotate_left
   ·go_simp; exact rfl
   (try go_frame); refine' tkL 8 _ (some 48) rfl rfl (by kernel_rfl) (fun _ _ _ => id) (Or.inl ⟨by rfl, fun X hX => ?_⟩) hS ?_; rotate_left
   ·go_simp; exact rfl
   (try go_frame); refine' tkL 9 _ (some 49) rfl rfl (by kernel_rfl) (fun _ _ _ => id) (Or.inl ⟨by rfl, fun X hX => ?_⟩) hS ?_; rotate_left
   ·have hX := (show Y = X from hX); subst hX; go_simp; exact rfl
   (try go_frame); refine' tkL 10 _ (some 50) rfl rfl (by kernel_rfl) (fun _ _ _ => id) (Or.inl ⟨by rfl, fun X hX => ?_⟩) hS ?_; rotate_left
   ·go_simp; exact rfl
   (try go_frame); refine' tkL 11 _ (some 51) rfl rfl (by kernel_rfl) (fun _ _ _ => id) (Or.inl ⟨by rfl, fun X hX => ?_⟩) hS ?_; rotate_left
   ·go_simp; exact rfl
   (try go_frame); refine' tkL 12 _ (some 52) rfl rfl (by kernel_rfl) (fun _ _ _ => id) (Or.inl ⟨by rfl, fun X hX => ?_⟩) hS ?_; rotate_left
   ·have hX := (show Y = X from hX); subst hX; go_simp; exact rfl
   (try go_frame); refine wpAnyL.ready (rs := [13]) (by kernel_rfl) (by simp) ?_
   refine (AllReadyL.cons (o := ⟨some 53, _, _, _, _, none⟩) rfl (by decide) (fun K hK => ?_) AllReadyL.nil)
   go_simp
   refine (CF.out Y).mono ?_
   rintro e w2 ⟨rfl, rfl⟩
   refine hK.out _ _ rfl (fun hS => ?_)
   clear hK K
   refine' tkL 14 _ (some 54) rfl rfl (by kernel_rfl) (fun _ _ _ => id) (Or.inl ⟨by rfl, fun X hX => ?_⟩) hS ?_; rotate_left
   ·go_simp; exact rfl
   (try go_frame); refine wpAnyL.ready (rs := [15]) (by kernel_rfl) (by simp) ?_
   refine AllReadyL.closing (o := ⟨none, _, _, _, _, none⟩) rfl (fun K hK => ?_)
   go_simp
   refine hK.out _ _ ?_
   clear hK K
   refine wpAnyL.done (by kernel_rfl) ?_ _
   go_wp2_with fail
   go_roundw
   case rel =>
    exact ⟨k + 1, ⟨by have := HK.out; omega, HKT.out⟩, by go_num, Lib.hid ⟨HF.out.mark lostF A HK.out.1 rfl HX.out, HMW.out.setCell (p := ⟨g, k, none⟩) (fun _ => .inr (.inr rfl)) _⟩⟩
   case measure => have := HKT.out; simp [intOf]; omega
  ·obtain rfl : k = M := by omega
   have c2 : wr.cell? ⟨ob, 2, none⟩ = some (.bool o.fin) := HI.out.1.blk.cellAt 2 rfl
   have c3 : wr.cell? ⟨ob, 3, none⟩ = some (.int .u8 (o.e.toNat : Int)) := HI.out.1.blk.cellAt 3 rfl
   have f3 : wr.frozen? ⟨ob, 3, none⟩ = false := HI.out.1.blk.free 3
   have CF := Lib.hid (fun X => lostf_any o.e X)
   have HE := Lib.hid (HI.out.1.endE (lostF o.e))
   have HMS : Hid (∀ v, Mod (OS ob bv (.slice sa o.s.length cap)) w (wr.setCell ⟨ob, 3, none⟩ v)) := Lib.hid (fun v => HI.out.2.setCell (p := ⟨ob, 3, none⟩) (fun _ => .inl rfl) v)
   have t1 : decide ((k : Int) < (o.s.length : Int)) = true ∧ decide ((k : Int) - (A : Int) < (n : Int)) = false ∨ decide ((k : Int) < (o.s.length : Int)) = false := by
    by_cases h : k < o.s.length
    ·have := HL.out; exact .inl ⟨by simp; omega, by simp; omega⟩
    ·exact .inr (by simp; omega)
   have t2 : decide (k < o.s.length) = decide ((k : Int) < (o.s.length : Int)) := by simp
   have HTT := Lib.hid t2
   clear hk hkt t2
   rcases t1 with ⟨t1, t1'⟩ | t1
   all_goals (
    have t2 := HTT.out.trans t1
    cases en with
    | false =>
     go_wp2_with fail
     go_end0
     rw [HT.out]
     exact ⟨rfl, HI.out.1, HI.out.2⟩
    | true =>
     cases hf : o.fin with
     | false =>
      rw [hf] at c2
      have HH := Lib.hid hf
      clear hf
      go_wp2_with fail
      go_end0
      rw [HT.out, HH.out]
      exact ⟨rfl, by have := HI.out.1; rw [HH.out] at *; exact this, HI.out.2⟩
     | true =>
      rw [hf] at c2
      have HH := Lib.hid hf
      clear hf
      go_wp2_with (first
       | (go_at_call 82; (with_reducible refine (CF.out _).mono ?_); rintro e w2 ⟨rfl, rfl⟩)
       | fail)
      go_end0
      rw [HT.out, HH.out]
      exact ⟨rfl, by have := HE.out; rw [HH.out] at *; exact this, HMS.out _⟩)
theorem oacked_any {B : Nat} {w : World} {ob : Nat} {bv sv : Value} {o : OB} (q : OBuf B w ob bv sv o) (off n : Nat) (en : Bool) (hn : (n : Int) ≤ 1000000000) :
  Calls Tryz.prog 54 #[.pointer (some ⟨ob, 0, none⟩), .int .u64 (off : Int), .int .i64 (n : Int), .bool en] w fun e w' => e = .returned (.tuple #[]) ∧ OBuf B w' ob bv sv (turnO ackF off n en o) ∧ Mod (OS ob bv sv) w w' := by
 have HC := Lib.hid (turn_acked q off n en hn)
 clear q hn
 go_enter Tryz.func54, Tryz.ntmps54
 go_wp2_with (first
  | (go_at_call 81; (with_reducible refine HC.out.mono ?_); rintro e w2 ⟨rfl, hq, hM⟩; have HR := Lib.hid (And.intro hq hM); clear hq hM)
  | fail)
 go_end0
 exact ⟨rfl, HR.out.1, HR.out.2⟩
theorem olost_any {B : Nat} {w : World} {ob : Nat} {bv sv : Value} {o : OB} (q : OBuf B w ob bv sv o) (off n : Nat) (en : Bool) (hn : (n : Int) ≤ 1000000000) :
  Calls Tryz.prog 53 #[.pointer (some ⟨ob, 0, none⟩), .int .u64 (off : Int), .int .i64 (n : Int), .bool en] w fun e w' => e = .returned (.tuple #[]) ∧ OBuf B w' ob bv sv (turnO lostF off n en o) ∧ Mod (OS ob bv sv) w w' := by
 have HC := Lib.hid (turn_lost q off n en hn)
 clear q hn
 go_enter Tryz.func53, Tryz.ntmps53
 go_wp2_with (first
  | (go_at_call 81; (with_reducible refine HC.out.mono ?_); rintro e w2 ⟨rfl, hq, hM⟩; have HR := Lib.hid (And.intro hq hM); clear hq hM)
  | fail)
 go_end0
 exact ⟨rfl, HR.out.1, HR.out.2⟩
end Go.Proofs.YtolgeghdkoodnaaGreatDoor
set_option maxRecDepth 100000
namespace Go.Proofs.YtolgeghdkoodnaaGreatDoor
open Go.RowKit Go.Maps
theorem step_skipr {P : Program} {w w' : World} {ops : Array Oper} {o : Oper} {a : Act} {K : Act → World → Prop} {Q : Exit → Act → World → Prop} {E : Prop} (hg : o.guard = none) (hr : (execOp a.eval o).run P w = .ok .skip w') (h : K (a.put o.dst undef) w') :
  if Region.wanted o (yielded ops a.tmps) = true then Oper.wp P o a w K Q else E := by
 have hw : Region.wanted o (yielded ops a.tmps) = true := by simp [Region.wanted, hg]
 rw [if_pos hw]
 unfold Oper.wp
 rw [hr]
 exact h
def outOf (T : Tb) (id : Nat) : Option OB := if (id : Int) ∈ T.dom then (T.m id).out else none
def setO (T : Tb) (id : Nat) (o : OB) : Tb := { T with m := updM T.m id { T.m id with out := some o } }
def ackT (T : Tb) (f : Fr) : Tb :=
 match outOf T f.id with
 | none => T
 | some o => if f.k = 8 then setO T f.id (turnO ackF f.a f.d.length f.fl o) else if f.k = 4 then { T with m := updM T.m f.id (setTell { T.m f.id with done := (T.m f.id).reset } 4 ((T.m f.id).tR && !(T.m f.id).reset)) } else T
def AckR (B : Nat) (w w' : World) (tb mb : Nat) (G : Int → SM) (T T' : Tb) (e : Ending) : Prop := e = .returned (.tuple #[]) ∧ TC B w w' tb mb G T T'
theorem TBuf.lookX {B : Nat} {w : World} {tb mb : Nat} {G : Int → SM} {T : Tb} (q : TBuf B w tb mb G T) {id : Nat} (hi : okId id) (n : Nat) :
  (Instr.lookup 72 (.map (some mb)) (.int .u64 (id : Int)) false).run Tryz.prog (w.drewN n) = .ok (if (id : Int) ∈ T.dom then .pointer (some ⟨(G id).sb, 0, none⟩) else .pointer none) (w.drewN n) :=
 (q.still ((Mod.refl (fun _ => False) w).drewN n)).look hi
theorem TellM.look {w : World} {tb : Nat} {s : St} (h : TellM w tb s) {z : Int} (hz : tellK z) : (Instr.lookup 79 (.map (some tb)) (.int .i64 z) false).run Tryz.prog w = .ok (.bool (tellF s z)) w := by
 obtain ⟨dom, b, h1, h2, h3⟩ := h
 have := h1.look (t := 79) Tryz.underlying3 (i64_wf hz) Tryz.underlying79 (zero_bool w)
 rw [this, ← h3 z]
 by_cases hd : z ∈ dom
 ·rw [if_pos hd, decide_eq_true hd]; rfl
 ·rw [if_neg hd, decide_eq_false hd]; rfl
theorem SBuf.tellPut {B : Nat} {w : World} {g : SM} {s : St} (q : SBuf B w g s) {z : Int} (hz : tellK z) (b : Bool) : ∃ w', (Instr.mapUpdate 79 (.map (some g.tb)) (.int .i64 z) (.bool b)).run Tryz.prog w = .ok () w' ∧ SC B w w' g g s (setTell s z b) := by
 obtain ⟨dom, f, h1, h2, h3⟩ := q.tell
 obtain ⟨w', hr, hI, hM⟩ := h1.put (t := 79) (e := 4) Tryz.underlying3 (.bool b) (i64_wf hz) (TellM.size h1 h2) Tryz.underlying79
 exact ⟨w', hr, q.tellS hz h2 h3 hI hM⟩
set_option maxHeartbeats 4000000 in
theorem tacked_any {B : Nat} {w : World} {tb mb : Nat} {G : Int → SM} {T : Tb} (q : TBuf B w tb mb G T) {f : Fr} {vd vr : Value} (hf : FrV w f vd vr) (hi : okId f.id) (hdl : f.d.length ≤ 1000000000) :
  Calls Tryz.prog 24 #[.pointer (some ⟨tb, 0, none⟩), frV f vd vr] w fun e w' => AckR B w w' tb mb G T (ackT T f) e := by
 obtain ⟨da, dc, rfl, -⟩ := Sl.val hf.d
 have HB := Lib.hid (FrB.new w f (.slice da f.d.length dc) vr hf.t)
 obtain ⟨b0, b1, b2, -, -, b5, b6, -⟩ := HB.out.cells
 have HM : Hid (Mod (fun _ => False) w (w.alloc (.cells (frC f (.slice da f.d.length dc) vr) 52))) := Lib.hid ((Mod.refl _ _).alloc _)
 have HQ := Lib.hid (q.still HM.out)
 have cm : (w.alloc (.cells (frC f (.slice da f.d.length dc) vr) 52)).cell? ⟨tb, 22, none⟩ = some (.map (some mb)) := HQ.out.mapc
 have hlk := HQ.out.lookX hi
 have HL := Lib.hid hdl
 have HQ0 := Lib.hid q
 clear q hf hdl
 unfold frV
 generalize frC f (.slice da f.d.length dc) vr = C at *
 by_cases hd : (f.id : Int) ∈ T.dom
 ·have hs := HQ.out.strs _ hd
  have c0 : (w.alloc (.cells C 52)).cell? ⟨(G f.id).sb, 0, none⟩ = some (ptrO (G f.id).ob (T.m f.id).out) := hs.blk.cellAt 0 rfl
  simp only [if_pos hd] at hlk
  have HD := Lib.hid hd
  cases ho : (T.m f.id).out with
  | none =>
   have HE : Hid (ackT T f = T) := Lib.hid (by unfold ackT outOf; rw [if_pos hd, ho])
   rw [ho] at c0
   unfold ptrO at c0
   clear hs hd ho
   go_enter Tryz.func24, Tryz.ntmps24
   go_wp2_with fail
   go_quiet (fail)
   go_wp2_with fail
   refine bodyPost_ret (results_none rfl _ _ _) rfl ?_
   rw [HE.out]
   exact ⟨rfl, HQ0.out.tc (HM.out.drewN _)⟩
  | some o =>
   rw [ho] at c0
   unfold ptrO at c0
   have HO := Lib.hid ho
   by_cases h8 : f.k = 8
   ·have HE : Hid (ackT T f = setO T f.id (turnO ackF f.a f.d.length f.fl o)) := Lib.hid (by unfold ackT outOf; rw [if_pos hd, ho]; dsimp only; rw [if_pos h8])
    have H8 := Lib.hid h8
    rw [h8] at b0
    clear hs hd ho h8
    go_enter Tryz.func24, Tryz.ntmps24
    go_wp2_with fail
    go_quiet (fail)
    have HWX1 := Lib.hid ((Mod.refl (fun _ => False) (w.alloc (.cells C 52))).drewN nq)
    clear b0 b1 b2 b5 b6 cm hlk c0
    generalize (w.alloc (.cells C 52)).drewN nq = X1 at *
    have HQX1 := Lib.hid (HQ.out.still HWX1.out)
    have HBX1 := Lib.hid (HB.out.kept HWX1.out)
    have HMX1 := Lib.hid (HM.out.trans HWX1.out)
    obtain ⟨b0, b1, b2, -, -, b5, b6, -⟩ := HBX1.out.cells
    have cm : X1.cell? ⟨tb, 22, none⟩ = some (.map (some mb)) := HQX1.out.mapc
    have hlk := HQX1.out.lookX hi
    simp only [if_pos HD.out] at hlk
    have c0 : X1.cell? ⟨(G f.id).sb, 0, none⟩ = some (ptrO (G f.id).ob (T.m f.id).out) := (HQX1.out.strs _ HD.out).blk.cellAt 0 rfl
    rw [HO.out] at c0
    unfold ptrO at c0
    go_wp2_with fail
    go_quiet (fail)
    have HWX2 := Lib.hid ((Mod.refl (fun _ => False) X1).drewN nq)
    clear b0 b1 b2 b5 b6 cm hlk c0
    generalize X1.drewN nq = X2 at *
    have HQX2 := Lib.hid (HQX1.out.still HWX2.out)
    have HBX2 := Lib.hid (HBX1.out.kept HWX2.out)
    have HMX2 := Lib.hid (HMX1.out.trans HWX2.out)
    obtain ⟨b0, b1, b2, -, -, b5, b6, -⟩ := HBX2.out.cells
    have cm : X2.cell? ⟨tb, 22, none⟩ = some (.map (some mb)) := HQX2.out.mapc
    have hlk := HQX2.out.lookX hi
    simp only [if_pos HD.out] at hlk
    have c0 : X2.cell? ⟨(G f.id).sb, 0, none⟩ = some (ptrO (G f.id).ob (T.m f.id).out) := (HQX2.out.strs _ HD.out).blk.cellAt 0 rfl
    rw [HO.out] at c0
    unfold ptrO at c0
    rw [H8.out] at b0
    go_upto_region 5 with fail
    refine wp_region_last (S := fun X => X2.drew = X) 11 (by kernel_rfl) rfl (fun hS => ?_)
    have HWY := Lib.hid ((Mod.refl (fun _ => False) X2).drew)
    clear b0 b1 b2 b5 b6 cm hlk c0
    generalize X2.drew = Y at *
    have HQY := Lib.hid (HQX2.out.still HWY.out)
    have HBY := Lib.hid (HBX2.out.kept HWY.out)
    have HMY := Lib.hid (HMX2.out.trans HWY.out)
    obtain ⟨b0, b1, b2, -, -, b5, b6, -⟩ := HBY.out.cells
    have cm : Y.cell? ⟨tb, 22, none⟩ = some (.map (some mb)) := HQY.out.mapc
    have hlk := HQY.out.lookX hi
    simp only [if_pos HD.out] at hlk
    have c0 : Y.cell? ⟨(G f.id).sb, 0, none⟩ = some (ptrO (G f.id).ob (T.m f.id).out) := (HQY.out.strs _ HD.out).blk.cellAt 0 rfl
    rw [HO.out] at c0
    unfold ptrO at c0
    have CA := Lib.hid (oacked_any ((HQY.out.strs _ HD.out).out o HO.out) f.a f.d.length f.fl (by have := HL.out; omega))
    refine' tkL 0 _ (some 41) rfl rfl (by kernel_rfl) (fun _ _ _ => id) (Or.inl ⟨by rfl, fun X hX => ?_⟩) hS ?_; rotate_left
    ·go_simp; exact rfl
    (try go_frame); refine' tkL 1 _ (some 42) rfl rfl (by kernel_rfl) (fun _ _ _ => id) (Or.inl ⟨by rfl, fun X hX => ?_⟩) hS ?_; rotate_left
    ·go_simp; exact rfl
    (try go_frame); refine' tkL 2 _ (some 43) rfl rfl (by kernel_rfl) (fun _ _ _ => id) (Or.inl ⟨by rfl, fun X hX => ?_⟩) hS ?_; rotate_left
    ·go_simp; exact rfl
    (try go_frame); refine' tkL 3 _ (some 44) rfl rfl (by kernel_rfl) (fun _ _ _ => id) (Or.inl ⟨by rfl, fun X hX => ?_⟩) hS ?_; rotate_left
    ·have hX := (show Y = X from hX); subst hX; go_simp; exact rfl
    (try go_frame); refine' tkL 4 _ (some 45) rfl rfl (by kernel_rfl) (fun _ _ _ => id) (Or.inl ⟨by rfl, fun X hX => ?_⟩) hS ?_; rotate_left
    ·go_simp; exact rfl
    (try go_frame); refine' tkL 5 _ (some 46) rfl rfl (by kernel_rfl) (fun _ _ _ => id) (Or.inl ⟨by rfl, fun X hX => ?_⟩) hS ?_; rotate_left
    ·have hX := (show Y = X from hX); subst hX; go_simp; exact rfl
    (try go_frame); refine' tkL 6 _ (some 47) rfl rfl (by kernel_rfl) (fun _ _ _ => id) (Or.inl ⟨by rfl, fun X hX => ?_⟩) hS ?_; rotate_left
    ·go_simp; exact rfl
    (try go_frame); refine' tkL 7 _ (some 48) rfl rfl (by kernel_rfl) (fun _ _ _ => id) (Or.inl ⟨by rfl, fun X hX => ?_⟩) hS ?_; rotate_left
    ·have hX := (show Y = X from hX); subst hX; go_simp; exact rfl
    (try go_frame); refine' tkL 8 _ (some 49) rfl rfl (by kernel_rfl) (fun _ _ _ => id) (Or.inl ⟨by rfl, fun X hX => ?_⟩) hS ?_; rotate_left
    ·go_simp; exact rfl
    (try go_frame); refine' tkL 9 _ (some 50) rfl rfl (by kernel_rfl) (fun _ _ _ => id) (Or.inl ⟨by rfl, fun X hX => ?_⟩) hS ?_; rotate_left
    ·go_simp; exact rfl
    (try go_frame); refine' tkL 10 _ (some 51) rfl rfl (by kernel_rfl) (fun _ _ _ => id) (Or.inl ⟨by rfl, fun X hX => ?_⟩) hS ?_; rotate_left
    ·have hX := (show Y = X from hX); subst hX; go_simp; exact rfl
    (try go_frame); refine wpAnyL.ready (rs := [11]) (by kernel_rfl) (by simp) ?_
    refine AllReadyL.closing (o := ⟨some 52, _, _, _, _, none⟩) rfl (fun K hK => ?_)
    go_simp
    refine CA.out.mono ?_
    rintro e w2 ⟨rfl, hq2, hM2⟩
    have HR := Lib.hid (And.intro hq2 hM2)
    refine hK.out _ _ ?_
    clear hK K hq2 hM2
    refine wpAnyL.done (by kernel_rfl) ?_ _
    go_wp2_with fail
    go_end0
    obtain ⟨g', hsc⟩ := (HQY.out.strs _ HD.out).outS HO.out ⟨_, _, HR.out.1, fun k hk => .inl hk, HR.out.2⟩
    rw [HE.out]
    exact ⟨rfl, TC.trans (HQ0.out.stay HMY.out) (hsc.table HQY.out HD.out)⟩
   ·by_cases h4 : f.k = 4
    ·have HE : Hid (ackT T f = { T with m := updM T.m f.id (setTell { T.m f.id with done := (T.m f.id).reset } 4 ((T.m f.id).tR && !(T.m f.id).reset)) }) := Lib.hid (by unfold ackT outOf; rw [if_pos hd, ho]; dsimp only; rw [if_neg h8, if_pos h4])
     have H4 := Lib.hid h4
     rw [h4] at b0
     clear hs hd ho h8 h4
     go_enter Tryz.func24, Tryz.ntmps24
     go_wp2_with fail
     go_quiet (fail)
     have HWX1 := Lib.hid ((Mod.refl (fun _ => False) (w.alloc (.cells C 52))).drewN nq)
     clear b0 b1 b2 b5 b6 cm hlk c0
     generalize (w.alloc (.cells C 52)).drewN nq = X1 at *
     have HQX1 := Lib.hid (HQ.out.still HWX1.out)
     have HBX1 := Lib.hid (HB.out.kept HWX1.out)
     have HMX1 := Lib.hid (HM.out.trans HWX1.out)
     obtain ⟨b0, b1, b2, -, -, b5, b6, -⟩ := HBX1.out.cells
     have cm : X1.cell? ⟨tb, 22, none⟩ = some (.map (some mb)) := HQX1.out.mapc
     have hlk := HQX1.out.lookX hi
     simp only [if_pos HD.out] at hlk
     have c0 : X1.cell? ⟨(G f.id).sb, 0, none⟩ = some (ptrO (G f.id).ob (T.m f.id).out) := (HQX1.out.strs _ HD.out).blk.cellAt 0 rfl
     rw [HO.out] at c0
     unfold ptrO at c0
     go_wp2_with fail
     go_quiet (fail)
     have HWX2 := Lib.hid ((Mod.refl (fun _ => False) X1).drewN nq)
     clear b0 b1 b2 b5 b6 cm hlk c0
     generalize X1.drewN nq = X2 at *
     have HQX2 := Lib.hid (HQX1.out.still HWX2.out)
     have HBX2 := Lib.hid (HBX1.out.kept HWX2.out)
     have HMX2 := Lib.hid (HMX1.out.trans HWX2.out)
     obtain ⟨b0, b1, b2, -, -, b5, b6, -⟩ := HBX2.out.cells
     have cm : X2.cell? ⟨tb, 22, none⟩ = some (.map (some mb)) := HQX2.out.mapc
     have hlk := HQX2.out.lookX hi
     simp only [if_pos HD.out] at hlk
     have c0 : X2.cell? ⟨(G f.id).sb, 0, none⟩ = some (ptrO (G f.id).ob (T.m f.id).out) := (HQX2.out.strs _ HD.out).blk.cellAt 0 rfl
     rw [HO.out] at c0
     unfold ptrO at c0
     rw [H4.out] at b0
     have hs2 := HQX2.out.strs _ HD.out
     have k4 : X2.cell? ⟨(G f.id).sb, 4, none⟩ = some (.bool (T.m f.id).reset) := hs2.blk.cellAt 4 rfl
     have k10 : X2.cell? ⟨(G f.id).sb, 10, none⟩ = some (.bool (T.m f.id).done) := hs2.blk.cellAt 10 rfl
     have g10 : X2.frozen? ⟨(G f.id).sb, 10, none⟩ = false := hs2.blk.free 10
     have x1 := hs2.cell 10 (.bool (T.m f.id).reset) (s' := { T.m f.id with done := (T.m f.id).reset }) rfl rfl rfl (fun _ => rfl) hs2.num
     have HX1 := Lib.hid (x1.trans (x1.1.stay (Mod.refl (fun _ => False) _).drew))
     clear hs2 x1
     go_upto_region 8 with fail
     refine wp_region_last (S := fun X => (X2.setCell ⟨(G f.id).sb, 10, none⟩ (.bool (T.m f.id).reset)).drew = X) 16 (by kernel_rfl) rfl (fun hS => ?_)
     clear b0 b1 b2 b5 b6 cm hlk c0 k4 k10 g10
     have e11 := HX1.out.1.blk.cellAt 11 rfl
     have e10 := HX1.out.1.blk.cellAt 10 rfl
     have HTL : Hid ((Instr.lookup 79 (.map (some (G f.id).tb)) (.int .i64 4) false).run Tryz.prog ((X2.setCell ⟨(G f.id).sb, 10, none⟩ (.bool (T.m f.id).reset)).drew) = .ok (.bool (T.m f.id).tR) ((X2.setCell ⟨(G f.id).sb, 10, none⟩ (.bool (T.m f.id).reset)).drew)) := Lib.hid (HX1.out.1.tell.look (.inl rfl))
     obtain ⟨w2, hr2, hsc2⟩ := HX1.out.1.tellPut (z := 4) (.inl rfl) ((T.m f.id).tR && !(T.m f.id).reset)
     have HR2 := Lib.hid hr2
     have HSC2 := Lib.hid (HX1.out.trans hsc2)
     clear hr2 hsc2
     have d11 : ((X2.setCell ⟨(G f.id).sb, 10, none⟩ (.bool (T.m f.id).reset)).drew).cell? ⟨(G f.id).sb, 11, none⟩ = some (.map (some (G f.id).tb)) := e11
     have d10 : ((X2.setCell ⟨(G f.id).sb, 10, none⟩ (.bool (T.m f.id).reset)).drew).cell? ⟨(G f.id).sb, 10, none⟩ = some (.bool (T.m f.id).reset) := e10
     clear e11 e10
     generalize ((X2.setCell ⟨(G f.id).sb, 10, none⟩ (.bool (T.m f.id).reset)).drew) = Y at *
     obtain ⟨rs, hrs⟩ : ∃ rs, rs = (T.m f.id).reset := ⟨_, rfl⟩
     obtain ⟨tr, htr⟩ : ∃ tr, tr = (T.m f.id).tR := ⟨_, rfl⟩
     rw [← hrs] at d10 HR2
     rw [← htr] at HTL HR2
     have htl := HTL.out
     clear hrs htr HTL
     cases tr with
     | true =>
      refine' tkL 0 _ (some 62) rfl rfl (by kernel_rfl) (fun _ _ _ => id) (Or.inl ⟨by rfl, fun X hX => ?_⟩) hS ?_; rotate_left
      ·go_simp; exact rfl
      (try go_frame); refine' tkL 1 _ (some 63) rfl rfl (by kernel_rfl) (fun _ _ _ => id) (Or.inl ⟨by rfl, fun X hX => ?_⟩) hS ?_; rotate_left
      ·go_simp; exact rfl
      (try go_frame); refine' tkL 2 _ (some 64) rfl rfl (by kernel_rfl) (fun _ _ _ => id) (Or.inl ⟨by rfl, fun X hX => ?_⟩) hS ?_; rotate_left
      ·go_simp; exact rfl
      (try go_frame); refine' tkL 3 _ (some 65) rfl rfl (by kernel_rfl) (fun _ _ _ => id) (Or.inl ⟨by rfl, fun X hX => ?_⟩) hS ?_; rotate_left
      ·have hX := (show Y = X from hX); subst hX; go_simp; exact rfl
      (try go_frame); refine' tkL 4 _ (some 66) rfl rfl (by kernel_rfl) (fun _ _ _ => id) (Or.inl ⟨by rfl, fun X hX => ?_⟩) hS ?_; rotate_left
      ·go_simp; exact rfl
      (try go_frame); refine' tkL 5 _ (some 67) rfl rfl (by kernel_rfl) (fun _ _ _ => id) (Or.inl ⟨by rfl, fun X hX => ?_⟩) hS ?_; rotate_left
      ·go_simp; exact rfl
      (try go_frame); refine' tkL 6 _ (some 68) rfl rfl (by kernel_rfl) (fun _ _ _ => id) (Or.inl ⟨by rfl, fun X hX => ?_⟩) hS ?_; rotate_left
      ·go_simp; exact rfl
      (try go_frame); refine' tkL 7 _ (some 69) rfl rfl (by kernel_rfl) (fun _ _ _ => id) (Or.inl ⟨by rfl, fun X hX => ?_⟩) hS ?_; rotate_left
      ·have hX := (show Y = X from hX); subst hX; go_simp; exact rfl
      (try go_frame); refine' tkL 8 _ (some 70) rfl rfl (by kernel_rfl) (fun _ _ _ => id) (Or.inl ⟨by rfl, fun X hX => ?_⟩) hS ?_; rotate_left
      ·have hX := (show Y = X from hX); subst hX; go_simp; exact rfl
      (try go_frame); refine' tkL 9 _ (some 71) rfl rfl (by kernel_rfl) (fun _ _ _ => id) (Or.inl ⟨by rfl, fun X hX => ?_⟩) hS ?_; rotate_left
      ·go_simp; exact rfl
      (try go_frame); refine' tkL 10 _ (some 72) rfl rfl (by kernel_rfl) (fun _ _ _ => id) (Or.inl ⟨by rfl, fun X hX => ?_⟩) hS ?_; rotate_left
      ·go_simp; exact rfl
      (try go_frame); refine' tkL 11 _ (some 73) rfl rfl (by kernel_rfl) (fun _ _ _ => id) (Or.inl ⟨by rfl, fun X hX => ?_⟩) hS ?_; rotate_left
      ·go_simp; exact rfl
      (try go_frame); refine' tkL 12 _ (some 74) rfl rfl (by kernel_rfl) (fun _ _ _ => id) (Or.inl ⟨by rfl, fun X hX => ?_⟩) hS ?_; rotate_left
      ·go_simp; exact rfl
      (try go_frame); refine' tkL 13 _ (some 75) rfl rfl (by kernel_rfl) (fun _ _ _ => id) (Or.inl ⟨by rfl, fun X hX => ?_⟩) hS ?_; rotate_left
      ·have hX := (show Y = X from hX); subst hX; go_simp; exact rfl
      (try go_frame); refine' tkL 14 _ (some 76) rfl rfl (by kernel_rfl) (fun _ _ _ => id) (Or.inl ⟨by rfl, fun X hX => ?_⟩) hS ?_; rotate_left
      ·go_simp; exact rfl
      (try go_frame); refine tkL 15 (.bool (true && !rs)) (some 77) rfl rfl (by kernel_rfl) (fun _ _ _ => id) (Or.inl ⟨by rfl, fun X hX => ?_⟩) hS ?_
      ·go_simp
      (try go_frame); refine wpAnyL.ready (rs := [16]) (by kernel_rfl) (by simp) ?_
      refine AllReadyL.closing (o := ⟨none, _, _, _, _, none⟩) rfl (fun K hK => ?_)
      refine step_skipr rfl (exec_iput (m := .tmp 65) (x := .const (.int .i64 4)) (v := .tmp 77) rfl rfl rfl rfl HR2.out) ?_
      refine hK.out _ _ ?_
      clear hK K
      refine wpAnyL.done (by kernel_rfl) ?_ _
      go_wp2_with fail
      go_end0
      rw [HE.out]
      exact ⟨rfl, TC.trans (HQ0.out.stay HMX2.out) (HSC2.out.table HQX2.out HD.out)⟩
     | false =>
      refine' tkL 0 _ (some 62) rfl rfl (by kernel_rfl) (fun _ _ _ => id) (Or.inl ⟨by rfl, fun X hX => ?_⟩) hS ?_; rotate_left
      ·go_simp; exact rfl
      (try go_frame); refine' tkL 1 _ (some 63) rfl rfl (by kernel_rfl) (fun _ _ _ => id) (Or.inl ⟨by rfl, fun X hX => ?_⟩) hS ?_; rotate_left
      ·go_simp; exact rfl
      (try go_frame); refine' tkL 2 _ (some 64) rfl rfl (by kernel_rfl) (fun _ _ _ => id) (Or.inl ⟨by rfl, fun X hX => ?_⟩) hS ?_; rotate_left
      ·go_simp; exact rfl
      (try go_frame); refine' tkL 3 _ (some 65) rfl rfl (by kernel_rfl) (fun _ _ _ => id) (Or.inl ⟨by rfl, fun X hX => ?_⟩) hS ?_; rotate_left
      ·have hX := (show Y = X from hX); subst hX; go_simp; exact rfl
      (try go_frame); refine' tkL 4 _ (some 66) rfl rfl (by kernel_rfl) (fun _ _ _ => id) (Or.inl ⟨by rfl, fun X hX => ?_⟩) hS ?_; rotate_left
      ·go_simp; exact rfl
      (try go_frame); refine' tkL 5 _ (some 67) rfl rfl (by kernel_rfl) (fun _ _ _ => id) (Or.inl ⟨by rfl, fun X hX => ?_⟩) hS ?_; rotate_left
      ·go_simp; exact rfl
      (try go_frame); refine' tkL 6 _ (some 68) rfl rfl (by kernel_rfl) (fun _ _ _ => id) (Or.inl ⟨by rfl, fun X hX => ?_⟩) hS ?_; rotate_left
      ·go_simp; exact rfl
      (try go_frame); refine' tkL 7 _ (some 69) rfl rfl (by kernel_rfl) (fun _ _ _ => id) (Or.inl ⟨by rfl, fun X hX => ?_⟩) hS ?_; rotate_left
      ·have hX := (show Y = X from hX); subst hX; go_simp; exact rfl
      (try go_frame); refine' tkL 8 _ (some 70) rfl rfl (by kernel_rfl) (fun _ _ _ => id) (Or.inl ⟨by rfl, fun X hX => ?_⟩) hS ?_; rotate_left
      ·have hX := (show Y = X from hX); subst hX; go_simp; exact rfl
      (try go_frame); refine' tkL 9 _ (some 71) rfl rfl (by kernel_rfl) (fun _ _ _ => id) (Or.inl ⟨by rfl, fun X hX => ?_⟩) hS ?_; rotate_left
      ·go_simp; exact rfl
      (try go_frame); refine tkL 10 undef (some 72) rfl rfl (by kernel_rfl) (fun _ _ _ => id) (Or.inr ⟨by rfl, rfl⟩) hS ?_
      (try go_frame); refine tkL 11 undef (some 73) rfl rfl (by kernel_rfl) (fun _ _ _ => id) (Or.inr ⟨by rfl, rfl⟩) hS ?_
      (try go_frame); refine tkL 12 undef (some 74) rfl rfl (by kernel_rfl) (fun _ _ _ => id) (Or.inr ⟨by rfl, rfl⟩) hS ?_
      (try go_frame); refine tkL 13 undef (some 75) rfl rfl (by kernel_rfl) (fun _ _ _ => id) (Or.inr ⟨by rfl, rfl⟩) hS ?_
      (try go_frame); refine tkL 14 undef (some 76) rfl rfl (by kernel_rfl) (fun _ _ _ => id) (Or.inr ⟨by rfl, rfl⟩) hS ?_
      (try go_frame); refine tkL 15 (.bool (false && !rs)) (some 77) rfl rfl (by kernel_rfl) (fun _ _ _ => id) (Or.inl ⟨by rfl, fun X hX => ?_⟩) hS ?_
      ·go_simp
      (try go_frame); refine wpAnyL.ready (rs := [16]) (by kernel_rfl) (by simp) ?_
      refine AllReadyL.closing (o := ⟨none, _, _, _, _, none⟩) rfl (fun K hK => ?_)
      refine step_skipr rfl (exec_iput (m := .tmp 65) (x := .const (.int .i64 4)) (v := .tmp 77) rfl rfl rfl rfl HR2.out) ?_
      refine hK.out _ _ ?_
      clear hK K
      refine wpAnyL.done (by kernel_rfl) ?_ _
      go_wp2_with fail
      go_end0
      rw [HE.out]
      exact ⟨rfl, TC.trans (HQ0.out.stay HMX2.out) (HSC2.out.table HQX2.out HD.out)⟩
    ·have HE : Hid (ackT T f = T) := Lib.hid (by unfold ackT outOf; rw [if_pos hd, ho]; dsimp only; rw [if_neg h8, if_neg h4])
     have t8 : (f.k == 8) = false := by simpa using h8
     have t4 : (f.k == 4) = false := by simpa using h4
     clear hs hd ho h8 h4
     go_enter Tryz.func24, Tryz.ntmps24
     go_wp2_with fail
     go_quiet (fail)
     have HWX1 := Lib.hid ((Mod.refl (fun _ => False) (w.alloc (.cells C 52))).drewN nq)
     clear b0 b1 b2 b5 b6 cm hlk c0
     generalize (w.alloc (.cells C 52)).drewN nq = X1 at *
     have HQX1 := Lib.hid (HQ.out.still HWX1.out)
     have HBX1 := Lib.hid (HB.out.kept HWX1.out)
     have HMX1 := Lib.hid (HM.out.trans HWX1.out)
     obtain ⟨b0, b1, b2, -, -, b5, b6, -⟩ := HBX1.out.cells
     have cm : X1.cell? ⟨tb, 22, none⟩ = some (.map (some mb)) := HQX1.out.mapc
     have hlk := HQX1.out.lookX hi
     simp only [if_pos HD.out] at hlk
     have c0 : X1.cell? ⟨(G f.id).sb, 0, none⟩ = some (ptrO (G f.id).ob (T.m f.id).out) := (HQX1.out.strs _ HD.out).blk.cellAt 0 rfl
     rw [HO.out] at c0
     unfold ptrO at c0
     go_wp2_with fail
     go_quiet (fail)
     have HWX2 := Lib.hid ((Mod.refl (fun _ => False) X1).drewN nq)
     clear b0 b1 b2 b5 b6 cm hlk c0
     generalize X1.drewN nq = X2 at *
     have HQX2 := Lib.hid (HQX1.out.still HWX2.out)
     have HBX2 := Lib.hid (HBX1.out.kept HWX2.out)
     have HMX2 := Lib.hid (HMX1.out.trans HWX2.out)
     obtain ⟨b0, b1, b2, -, -, b5, b6, -⟩ := HBX2.out.cells
     have cm : X2.cell? ⟨tb, 22, none⟩ = some (.map (some mb)) := HQX2.out.mapc
     have hlk := HQX2.out.lookX hi
     simp only [if_pos HD.out] at hlk
     have c0 : X2.cell? ⟨(G f.id).sb, 0, none⟩ = some (ptrO (G f.id).ob (T.m f.id).out) := (HQX2.out.strs _ HD.out).blk.cellAt 0 rfl
     rw [HO.out] at c0
     unfold ptrO at c0
     go_wp2_with fail
     go_end0
     rw [HE.out]
     exact ⟨rfl, HQ0.out.tc HMX2.out⟩
 ·simp only [if_neg hd] at hlk
  have HE : Hid (ackT T f = T) := Lib.hid (by unfold ackT outOf; rw [if_neg hd])
  clear hd
  go_enter Tryz.func24, Tryz.ntmps24
  go_wp2_with fail
  go_quiet (fail)
  go_wp2_with fail
  refine bodyPost_ret (results_none rfl _ _ _) rfl ?_
  rw [HE.out]
  exact ⟨rfl, HQ0.out.tc (HM.out.drewN _)⟩
end Go.Proofs.YtolgeghdkoodnaaGreatDoor
