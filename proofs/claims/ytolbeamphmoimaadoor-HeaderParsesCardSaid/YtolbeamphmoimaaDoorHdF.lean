/- What a header's bytes are; the program's Put. -/
import Derived.Test.YtolbeamphmoimaaDoorHdE
import Derived.Test.YtolbeamphmoimaaDoorHdA
namespace Go.Proofs.YtolbeamphmoimaaDoor
open Go.RowKit

def cidL (l : List UInt8) : List UInt8 := UInt8.ofNat l.length :: l
/-- A header's bytes. -/
def hputL (h : Hd) : List UInt8 :=
  if rightB h then
    if h.long then
      [UInt8.ofNat (192 + 16 * h.kind.toNat + (h.cut.length - 1)), UInt8.ofNat (h.ver / 16777216), UInt8.ofNat (h.ver / 65536), UInt8.ofNat (h.ver / 256), UInt8.ofNat h.ver] ++ (cidL h.dst ++ (cidL h.src ++
        ((if h.kind = 0 then putL h.tok.length ++ h.tok else []) ++ (putL (h.cut.length + h.rest.toNat) ++ h.cut))))
    else UInt8.ofNat (64 + (h.cut.length - 1) + if h.phase then 4 else 0) :: (h.dst ++ h.cut)
  else []
theorem u8_val (n : Nat) (h : n < 256) : Value.int .u8 (n : Int) = bv (UInt8.ofNat n) := by
  unfold bv; rw [UInt8.toNat_ofNat_of_lt' (by simpa using h)]
/-- A block that was just laid reads as its cells. -/
theorem sl_lit (w : World) (cs : List Value) (n : Nat) (hn : cs.length = n) (hm : n ≤ maxLen) (T : TypeId) : Sl (w.alloc (.cells cs.toArray T)) 1 (.slice (some ⟨w.heap.size, 0, none⟩) n n) n cs :=
  ⟨by omega, _, n, rfl, Nat.le_refl _, hm, fun h => by simp at h, fun j u hu => ⟨_, 0, rfl, by rw [Nat.zero_add]; exact (Blk.new w cs.toArray T).cellAt j (by simpa using hu)⟩⟩
set_option maxRecDepth 10000 in
theorem cid_any {w : World} {v : Value} {l : List UInt8} (h : Byts w v l) (hl : (l.length : Int) ≤ 20) :
    Calls Tryd.prog 25 #[v] w fun e w' => ∃ v', e = .returned v' ∧ OwnW w' w.heap.size v' (cidL l) ∧ Mod (fun _ => False) w w' := by
  have H := Lib.hid h
  obtain ⟨a, cap, rfl, _⟩ := byts_val h
  have HU := Lib.hid (u8_val l.length (by omega))
  have HLL : Hid (((([UInt8.ofNat l.length] : List UInt8) :: [l]).flatten.length : Int) ≤ 140737488355328) := by show _ ≤ _; simp; omega
  clear h
  obtain ⟨n, hn⟩ : ∃ n, n = l.length := ⟨_, rfl⟩
  rw [← hn] at hl HU ⊢
  have HN := Lib.hid hn
  clear hn
  go_enter Tryd.func25, Tryd.ntmps25
  go_wp2_with fail
  rw [HU.out]
  have hb1 : Byts (w.alloc (.cells #[bv (UInt8.ofNat n)] 5)) (.slice (some ⟨w.heap.size, 0, none⟩) 1 1) [UInt8.ofNat n] := sl_lit w [bv (UInt8.ofNat n)] 1 rfl (by decide) _
  have hb2 : Byts _ _ l := H.out.kept ((Mod.refl (fun _ => False) w).alloc (.cells #[bv (UInt8.ofNat n)] 5)) (fun _ _ h => h)
  have P := parts2 _ _ _ _ _ hb1 hb2 23
  rw [show (w.alloc (.cells #[bv (UInt8.ofNat n)] 5)).heap.size = w.heap.size + 1 by simp] at P
  rw [← HN.out] at HLL P
  refine (all_any (n := 2) rfl (by decide) (by decide) P HLL.out (by decide)).mono ?_
  rintro e w1 ⟨v, rfl, ho, hM⟩
  go_wp2
  go_ret
  refine ⟨v, rfl, ?_, (((Mod.refl (fun _ => False) w).alloc _).alloc _).trans hM⟩
  have ho' := ho.mono (B' := w.heap.size) (by simp; omega)
  simpa [cidL, ← HN.out] using ho'
theorem right_len {h : Hd} (hr : rightB h = true) : 1 ≤ h.cut.length ∧ h.cut.length ≤ 4 ∧ h.dst.length ≤ 20 ∧ h.src.length ≤ 20 ∧ 0 ≤ h.rest ∧ h.rest ≤ 1200 := by
  simp only [rightB, Bool.and_eq_true, decide_eq_true_eq] at hr
  obtain ⟨⟨⟨⟨⟨⟨h1, h2⟩, h3⟩, h4⟩, h5⟩, h6⟩, _⟩ := hr
  exact ⟨h1, h2, h3, h4, h5, h6⟩
theorem right_long {h : Hd} (hr : rightB h = true) (hl : h.long = true) : h.phase = false ∧ h.tok.length ≤ 200 ∧ (h.kind = 0 ∨ h.kind = 2 ∧ h.tok.length = 0) := by
  simp only [rightB, hl, if_true, Bool.and_eq_true, Bool.or_eq_true, decide_eq_true_eq, Bool.not_eq_true'] at hr
  exact ⟨hr.2.1.1, hr.2.1.2, hr.2.2⟩
theorem right_short {h : Hd} (hr : rightB h = true) (hl : h.long = false) : h.kind = 0 ∧ h.ver = 0 ∧ h.src.length = 0 ∧ h.tok.length = 0 ∧ h.dst.length = 8 := by
  simp only [rightB, hl, Bool.false_eq_true, if_false, Bool.and_eq_true, decide_eq_true_eq] at hr
  obtain ⟨_, ⟨⟨⟨h1, h2⟩, h3⟩, h4⟩, h5⟩ := hr
  exact ⟨h1, h2, h3, h4, h5⟩

set_option maxRecDepth 10000 in
theorem hput_wrong {w : World} {h : Hd} {d s t c : Value} (hv : HdV w h d s t c) (hr : rightB h = false) :
    Calls Tryd.prog 15 #[hdV h d s t c] w fun e w' => e = .returned (.slice none 0 0) ∧ Mod (fun _ => False) w w' := by
  have HR := Lib.hid (right_any (hv.kept ((Mod.refl (fun _ => False) w).alloc (.cells (hdV h d s t c).cells 25))))
  rw [hr] at HR
  clear hr
  obtain ⟨da, dc, rfl, _⟩ := byts_val hv.d
  obtain ⟨sa, sc, rfl, _⟩ := byts_val hv.s
  obtain ⟨ta, tc, rfl, _⟩ := byts_val hv.t
  obtain ⟨ca, cc, rfl, _⟩ := byts_val hv.c
  unfold hdV at HR ⊢
  clear hv
  go_enter Tryd.func15, Tryd.ntmps15
  go_wp2_with fail
  refine HR.out.mono ?_
  rintro e w1 ⟨rfl, hM⟩
  go_wp2
  go_ret
  exact ⟨rfl, ((Mod.refl (fun _ => False) w).alloc _).trans hM⟩
end Go.Proofs.YtolbeamphmoimaaDoor
