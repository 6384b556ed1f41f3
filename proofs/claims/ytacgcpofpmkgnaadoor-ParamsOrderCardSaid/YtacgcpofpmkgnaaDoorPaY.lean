/- The walk of ParamsOrder. -/
import Derived.Test.YtacgcpofpmkgnaaDoorPaX
import Derived.Test.YtacgcpofpmkgnaaDoorPaV
namespace Go.Proofs.YtacgcpofpmkgnaaDoor
open Go.RowKit

theorem Tryd.info29x : (Tryd.prog.info? 29).map (fun i => (i.zero, i.size, i.bytes)) = some (some (.slice none 0 0), 1, 24) := by kernel_rfl
def offOf (q : Pm) (ids : List Nat) (k : Nat) : Nat := ((ids.take k).flatMap (bytesOf q)).length
theorem off_succ (q : Pm) (ids : List Nat) (k id : Nat) (h : ids[k]? = some id) : offOf q ids (k + 1) = offOf q ids k + (bytesOf q id).length := by
  unfold offOf
  rw [take_snoc ids k id h, List.flatMap_append, List.length_append]
  simp
theorem off_le (q : Pm) (ids : List Nat) (k : Nat) : offOf q ids k ≤ (ids.flatMap (bytesOf q)).length := by
  have e := congrArg (fun x => (x.flatMap (bytesOf q)).length) (List.take_append_drop k ids)
  simp only [List.flatMap_append, List.length_append] at e
  unfold offOf
  omega
theorem off_all (q : Pm) (ids : List Nat) {k : Nat} (h : ids.length ≤ k) : offOf q ids k = (ids.flatMap (bytesOf q)).length := by
  unfold offOf; rw [List.take_of_length_le h]
theorem off_part (q : Pm) (ids : List Nat) (k id : Nat) (h : ids[k]? = some id) : ((ids.flatMap (bytesOf q)).drop (offOf q ids k)).take (bytesOf q id).length = bytesOf q id := by
  have hk : k < ids.length := (List.getElem?_eq_some_iff.1 h).1
  have e : ids.flatMap (bytesOf q) = (ids.take k).flatMap (bytesOf q) ++ (bytesOf q id ++ (ids.drop (k + 1)).flatMap (bytesOf q)) := by
    have e1 : ids.drop k = id :: ids.drop (k + 1) := by
      rw [List.drop_eq_getElem_cons hk]
      congr 1
      exact Option.some.inj ((List.getElem?_eq_getElem hk).symm.trans h)
    conv => lhs; rw [← List.take_append_drop k ids, e1]
    simp
  rw [e]
  unfold offOf
  rw [List.drop_left' rfl, List.take_left' rfl]
/-- A part of a row of bytes. -/
def Chunk (g off n : Nat) (v : Value) : Prop := ∃ c, v = .slice (some ⟨g, off, none⟩) n c ∧ n ≤ c ∧ c ≤ maxLen
theorem chunk_byts {w : World} {g off n : Nat} {cur : Array Value} {L : List UInt8} {v : Value} (hB : Blk w g cur 5) (ht : cur.toList.take L.length = L.map bv) (h : Chunk g off n v) (hle : off + n ≤ L.length) : Byts w v ((L.drop off).take n) := by
  obtain ⟨c, rfl, h1, h2⟩ := h
  have e : ((L.drop off).take n).length = n := by rw [List.length_take, List.length_drop]; omega
  refine ⟨by simp, some ⟨g, off, none⟩, c, by rw [e], by rw [e]; exact h1, h2, fun h => by simp at h, fun j u hu => ⟨g, off, rfl, ?_⟩⟩
  have hj : j < n := by
    have := (List.getElem?_eq_some_iff.1 hu).1
    rw [List.length_map, e] at this
    exact this
  refine hB.cellAt (off + j) ?_
  have h3 : (cur.toList.take L.length)[off + j]? = (L.map bv)[off + j]? := by rw [ht]
  rw [List.getElem?_take, if_pos (by omega)] at h3
  rw [← Array.getElem?_toList, h3, ← hu, List.getElem?_map, List.getElem?_map, List.getElem?_take, if_pos hj, List.getElem?_drop]
def lenV : Value → Nat
  | .slice _ n _ => n
  | _ => 0
/-- The parts that were cut off. -/
def PartsR (w : World) (B g : Nat) (q : Pm) (ids : List Nat) (k : Nat) (v : Value) : Prop :=
  ∃ xs, w.ownsRow B 29 1 v k xs ∧ (∀ u ∈ xs, u.oneCell' = true) ∧ ∀ j id, j < k → ids[j]? = some id → ∃ u, xs[j]? = some u ∧ Chunk g (offOf q ids j) (bytesOf q id).length u
theorem PartsR.kept {w w' : World} {B g k : Nat} {q : Pm} {ids : List Nat} {v : Value} (h : PartsR w B g q ids k v) (hM : Mod (fun _ => False) w w') : PartsR w' B g q ids k v := by
  obtain ⟨xs, h1, h2⟩ := h
  exact ⟨xs, hM.own h1 (fun _ _ h => h), h2⟩
/-- One part more. -/
theorem wpList_append_part {w : World} {ops : Array Oper} {rest : List Oper} {o : Oper} {a : Act} {Q : Exit → Act → World → Prop} (hgd : o.guard = none) (s x : Operand)
    (ho : o.op = .call { callee := .builtin .append, args := #[s, x], argTypes := #[40, 40] })
    {w1 : World} {B g k id c n : Nat} {q : Pm} {ids : List Nat} {ap : Option Addr} {cp : Nat} (hs : a.eval s = .slice ap k cp) (hR : PartsR w1 B g q ids k (.slice ap k cp)) (hB : B ≤ w1.heap.size)
    (hw : w = w1.alloc (.cells #[.slice (some ⟨g, offOf q ids k, none⟩) n c] 29)) (hx : a.eval x = .slice (some ⟨w1.heap.size, 0, none⟩) 1 1) (hid : ids[k]? = some id) (hn : n = (bytesOf q id).length) (hc1 : n ≤ c) (hc2 : c ≤ maxLen) (hk : (k : Int) ≤ 1000)
    (h : ∀ ap' cp' w', PartsR w' B g q ids (k + 1) (.slice ap' (k + 1) cp') → (∀ {w0 : World}, Mod (fun _ => False) w0 w1 → w0.heap.size ≤ B → Mod (fun _ => False) w0 w') → wpList Tryd.prog ops Q rest (a.put o.dst (.slice ap' (k + 1) cp')) w') : wpList Tryd.prog ops Q (o :: rest) a w := by
  subst hw
  obtain ⟨i0, hi, hz0, hz1, hz2⟩ := info_parts Tryd.info29x
  obtain ⟨xs, h1, h1b, h2⟩ := hR
  have hnew := Blk.new w1 #[Value.slice (some ⟨g, offOf q ids k, none⟩) n c] 29
  have hsl : Sl (w1.alloc (.cells #[.slice (some ⟨g, offOf q ids k, none⟩) n c] 29)) 1 (.slice (some ⟨w1.heap.size, 0, none⟩) 1 1) 1 [.slice (some ⟨g, offOf q ids k, none⟩) n c] := by
    refine ⟨rfl, some ⟨w1.heap.size, 0, none⟩, 1, rfl, Nat.le_refl _, by decide, fun h => by simp at h, fun j u hu => ⟨w1.heap.size, 0, rfl, ?_⟩⟩
    rw [Nat.zero_add]
    refine hnew.cellAt j ?_
    simpa using hu
  refine wpList_append_sl hgd s x 40 ho B 29 i0 (.slice none 0 0) 1 24 Tryd.underlying40 hi hz0 hz1 hz2 rfl (by decide) (.slice ap k cp) k xs hs (World.ownsRow.alloc h1 _) _ 1 _ hx hsl (fun u hu => by simp at hu; subst hu; rfl) (by omega) (by decide) (by simp; omega) ?_
  intro v' w' ho' hg
  have hM : ∀ {w0 : World}, Mod (fun _ => False) w0 w1 → w0.heap.size ≤ B → Mod (fun _ => False) w0 w' := fun hM0 hB0 => (hM0.alloc _).grown hg (fun k hk hlt => by have := (World.ownsRow.lt h1 k hk).1; omega)
  obtain ⟨a', c', hv, _⟩ := (Sl.ofOwn ho').val
  subst hv
  have hxl : xs.length = k := by simpa using h1.1
  refine h a' c' w' ⟨_, ho', ?_, fun j id' hj hid' => ?_⟩ hM
  · intro u hu
    rcases List.mem_append.1 hu with hu | hu
    · exact h1b u hu
    · simp at hu; subst hu; rfl
  · by_cases hjk : j < k
    · obtain ⟨u, e1, e2⟩ := h2 j id' hjk hid'
      exact ⟨u, by rw [List.getElem?_append_left (by omega)]; exact e1, e2⟩
    · obtain rfl : j = k := by omega
      rw [hid] at hid'
      obtain rfl := Option.some.inj hid'
      refine ⟨.slice (some ⟨g, offOf q ids j, none⟩) n c, ?_, c, ?_, ?_, hc2⟩
      · rw [List.getElem?_append_right (by omega), hxl]; simp
      · rw [hn]
      · rw [← hn]; exact hc1
theorem chunk_form {q : Pm} (ht : q.t.length = 16) {ids : List Nat} {k id : Nat} (hid : ids[k]? = some id) (hp : present q id = true) {w : World} {g : Nat} {cur : Array Value} {L : List UInt8} (hL : L = ids.flatMap (bytesOf q)) (hB : Blk w g cur 5) (hc : cur.toList.take L.length = L.map bv) :
    ∃ x : Nat, x < 64 ∧ (bytesOf q id).length = 2 + x ∧ w.cell? ⟨g, offOf q ids k + 1, none⟩ = some (.int .u8 (x : Int)) ∧ offOf q ids k + (2 + x) ≤ L.length := by
  obtain ⟨v, hv, hf⟩ := present_form ht hp
  have hlen : (bytesOf q id).length = 2 + v.length := by rw [hf]; simp; omega
  have hle : offOf q ids k + (2 + v.length) ≤ L.length := by
    have h1 := off_succ q ids k id hid
    have h2 := off_le q ids (k + 1)
    rw [hL]; omega
  refine ⟨v.length, hv, hlen, ?_, hle⟩
  have hby := chunk_byts (v := .slice (some ⟨g, offOf q ids k, none⟩) (2 + v.length) (2 + v.length)) hB hc ⟨2 + v.length, rfl, Nat.le_refl _, by unfold maxLen; omega⟩ hle
  have e : ((L.drop (offOf q ids k)).take (2 + v.length)) = bytesOf q id := by rw [hL, ← hlen]; exact off_part q ids k id hid
  rw [e, hf] at hby
  obtain ⟨b, off, cap, he, _, _, hcs⟩ := byts_addr hby (by simp)
  simp only [Value.slice.injEq, Option.some.injEq, Addr.mk.injEq] at he
  obtain ⟨⟨rfl, rfl, _⟩, _, _⟩ := he
  have := hcs 1 (UInt8.ofNat v.length) rfl
  rw [this]
  unfold bv
  rw [UInt8.toNat_ofNat_of_lt' (by show _ < 256; omega)]
theorem off_lt {q : Pm} (ht : q.t.length = 16) {ids : List Nat} {k : Nat} (h : k < ids.length) (hp : ∀ (k id : Nat), ids[k]? = some id → present q id = true) : offOf q ids k < (ids.flatMap (bytesOf q)).length := by
  have hid : ids[k]? = some ids[k] := List.getElem?_eq_getElem h
  have h1 := off_succ q ids k _ hid
  have h2 := off_le q ids (k + 1)
  obtain ⟨v, hv, hf⟩ := present_form ht (hp k _ hid)
  have h3 := congrArg List.length hf
  simp only [List.length_cons] at h3
  omega
theorem rot_at (l : List Nat) (k i : Nat) (hi : i < l.length) : (rot l k)[i]? = some (l.getD ((i + k) % l.length) 0) := by
  unfold rot
  rw [List.getElem?_map, List.getElem?_range hi]
  rfl
theorem order_none {p : Pm} (h : pputL p = []) : ((pputL p).length : Int) = 0 := by rw [h]; rfl

set_option maxHeartbeats 8000000 in
set_option maxRecDepth 10000 in
theorem lorder_any {w : World} {p : Pm} {kk : Int} (hT : Tabs w) (h16 : p.t.length = 16) (hk0 : 0 ≤ kk) (hk1 : kk ≤ 255) : Calls Tryd.prog 6 #[pmV p, .int .u8 kk] w fun e w' => e = .returned (.bool true) ∧ Below w.heap.size w w' := by
  obtain ⟨kn, rfl⟩ := Int.eq_ofNat_of_zero_le hk0
  have HT := Lib.hid hT
  have H16 := Lib.hid h16
  have HP := Lib.hid (PmB.new w p h16)
  have ZP := Lib.hid (size25 p h16)
  have OP := Lib.hid (pm_ones p)
  have HEQ := Lib.hid (fun w => pm_eql w p p h16 h16)
  rw [show pmEq p p = true from (pmEq_iff _ _).2 rfl] at HEQ
  have h58 := put_len h16
  obtain ⟨L, hL⟩ : ∃ L, L = pputL p := ⟨_, rfl⟩
  obtain ⟨n, hn⟩ : ∃ n, n = L.length := ⟨_, rfl⟩
  have H58 : Hid (n ≤ 58) := by show _ ≤ _; rw [hn, hL]; exact h58
  have HL := Lib.hid hL
  have HN := Lib.hid hn
  have hM0 : Mod (fun _ => False) w (w.alloc (.cells (pmC p) 25)) := (Mod.refl _ w).alloc _
  unfold pmV
  clear hT h16 h58 hL
  go_enter Tryd.func6, Tryd.ntmps6
  go_wp2_with fail
  refine (alive_any _ (hM0.tabs HT.out (fun h => h))).mono ?_
  rintro e w1 ⟨rfl, hM1⟩
  have HP1 := Lib.hid (HP.out.kept hM1)
  have HM1 := Lib.hid (hM0.trans hM1)
  clear hM0 hM1 HP
  go_wp2_with ((with_reducible refine wpList_load_blk ?_ 25 (.tmp 2) ?_ w.heap.size ?_ (pmC p) 25 _ HP1.out.blk Tryd.underlying25 ?_ ZP.out ?_); (· exact rfl); (· exact rfl); (· exact rfl); (· exact rfl))
  refine (put_c H16.out HL.out.symm hn.symm (HM1.out.tabs HT.out (fun h => h))).mono ?_
  rintro e w2 ⟨a2, c2, rfl, ho2, hM2⟩
  have HP2 := Lib.hid (HP1.out.kept hM2)
  have HM2 := Lib.hid (HM1.out.trans hM2)
  have HO2 := Lib.hid ho2
  clear hM2 HP1 ho2 hn
  go_wp2_with ((with_reducible refine wpList_load_blk ?_ 25 (.tmp 2) ?_ w.heap.size ?_ (pmC p) 25 _ HP2.out.blk Tryd.underlying25 ?_ ZP.out ?_); (· exact rfl); (· exact rfl); (· exact rfl); (· exact rfl))
  refine (may_c H16.out w2).mono ?_
  rintro e w3 ⟨rfl, hM3⟩
  have HM3 := Lib.hid (HM2.out.trans hM3)
  have HP3 := Lib.hid (HP2.out.kept hM3)
  by_cases h0 : L = []
  · have hn0 : n = 0 := by rw [HN.out, h0]; rfl
    subst hn0
    clear h0
    cases hm : mayB p
    · go_wp2_with fail
      go_ret
      exact ⟨rfl, HM3.out.below (Nat.le_refl _) (fun _ _ h => h.elim)⟩
    · go_wp2_with fail
      go_ret
      exact ⟨rfl, HM3.out.below (Nat.le_refl _) (fun _ _ h => h.elim)⟩
  · have hm : mayB p = true := by
      cases hm : mayB p
      · exact absurd (HL.out.trans (put_no hm)) h0
      · rfl
    rw [hm]
    have hnp : 0 < n := by rw [HN.out]; exact List.length_pos_iff.2 h0
    have hd0 : ((n : Int) == 0) = false := by simp; omega
    have HNP := Lib.hid hnp
    have HMB := Lib.hid hm
    have hO3 := HO2.out.keptF hM3
    obtain ⟨g, cur, rfl, hgB, hcur⟩ : ∃ g cur, a2 = some ⟨g, 0, none⟩ ∧ Blk w3 g cur 5 ∧ cur.toList.take L.length = L.map bv := by
      rcases hO3.2 with ⟨hv, hx⟩ | ⟨g, cap, cur, hv, _, hg, _, _, _, htk⟩
      · exact absurd (List.eq_nil_of_length_eq_zero hx) h0
      · simp only [Value.slice.injEq] at hv
        exact ⟨g, cur, hv.1, hg, by simpa using htk⟩
    have hc2 : n ≤ c2 ∧ c2 ≤ maxLen := by
      obtain ⟨_, _, he, h1, h2, _⟩ := byts_val hO3.byts
      simp only [Value.slice.injEq] at he
      obtain ⟨_, _, rfl⟩ := he
      rw [← HN.out] at h1
      exact ⟨h1, h2⟩
    have HC2 := Lib.hid hc2
    have HG := Lib.hid hgB
    have HCUR := Lib.hid hcur
    obtain ⟨ids, hids⟩ : ∃ ids, ids = idsOf p := ⟨_, rfl⟩
    have HIDS := Lib.hid hids
    have HLF : Hid (L = ids.flatMap (bytesOf p)) := by show _ = _; rw [HL.out, hids]; exact put_flat HMB.out
    have HPRES : Hid (∀ k id, ids[k]? = some id → present p id = true) := fun k id h => mem_ids.1 (hids ▸ List.mem_of_getElem? h)
    have hm5 : ids.length ≤ 5 := by rw [hids]; exact List.length_filter_le _ _
    obtain ⟨m, hmm⟩ : ∃ m, m = ids.length := ⟨_, rfl⟩
    have HMM := Lib.hid hmm
    have hm5' : (m : Int) ≤ 5 := by omega
    have hmp : 0 < m := by
      rw [hmm]
      apply List.length_pos_iff.2
      intro e
      apply h0
      rw [HLF.out, e]
      rfl
    have HMP := Lib.hid hmp
    clear hm hnp h0 hM3 hO3 hgB hcur hc2 hids hm5 hmm hmp HO2 HM2 HP2
    go_wp2_with fail
    go_loopw [5, 6] (fun s5 s6 wr => ∃ k : Nat, k ≤ m ∧ ∃ a5 c5 ap6 cp6, s5 = .slice a5 (n - offOf p ids k) c5 ∧ s6 = .slice ap6 k cp6 ∧ Hid ((k < m → a5 = some ⟨g, offOf p ids k, none⟩ ∧ offOf p ids k < n) ∧ n - offOf p ids k ≤ c5 ∧ c5 ≤ maxLen ∧ PartsR wr w3.heap.size g p ids k (.slice ap6 k cp6) ∧ Mod (fun _ => False) w3 wr)) (fun s5 _ _ => lenV s5)
    case atStart => exact ⟨0, Nat.zero_le _, some ⟨g, 0, none⟩, c2, none, 0, by simp [offOf], rfl, fun _ => ⟨by simp [offOf], by simp [offOf]; exact HNP.out⟩, by have := HC2.out; simp [offOf]; omega, HC2.out.2, ⟨[], World.ownsRow_nil _ _ _ _, by simp, fun j id hj => by omega⟩, Mod.refl _ _⟩
    case round =>
      obtain ⟨k, hk, a5, c5, ap6, cp6, rfl, rfl, HR⟩ := hrel
      by_cases hkm : k < m
      · obtain ⟨h1, h2, h3, hPR, hMr⟩ := HR.out
        obtain ⟨rfl, hoff⟩ := h1 hkm
        have hkl : k < ids.length := by have := HMM.out; omega
        have hid : ids[k]? = some ids[k] := List.getElem?_eq_getElem hkl
        generalize ids[k] = id at hid
        obtain ⟨x, hx64, hxl, hcell, hxle⟩ := chunk_form H16.out hid (HPRES.out k id hid) HLF.out (hMr.blk HG.out (fun h => h)) HCUR.out
        have hsucc := off_succ p ids k id hid
        have hnext : k + 1 < m → offOf p ids (k + 1) < n := fun h => by
          have := off_lt H16.out (ids := ids) (k := k + 1) (by have := HMM.out; omega) HPRES.out
          rw [HN.out, HLF.out]; exact this
        have hlen2 := HN.out
        obtain ⟨r, hr⟩ : ∃ r, r = n - offOf p ids k := ⟨_, rfl⟩
        obtain ⟨y, hy⟩ : ∃ y, y = 2 + x := ⟨_, rfl⟩
        rw [← hr] at h2 ⊢
        have hx64' : (x : Int) < 64 := by omega
        have hxy : (2 : Int) + (x : Int) = (y : Int) := by omega
        have hy2 : (2 : Int) ≤ (y : Int) := by omega
        have hyr : (y : Int) ≤ (r : Int) := by omega
        have hrc : (r : Int) ≤ (c5 : Int) := by omega
        have hyc : (y : Int) ≤ (c5 : Int) := by omega
        have hr0 : (0 : Int) < (r : Int) := by omega
        have hr1 : (1 : Int) < (r : Int) := by omega
        have hrem : Hid (n - offOf p ids (k + 1) = r - y) := by show _ = _; omega
        have HNEXT := Lib.hid hnext
        have HPR := Lib.hid hPR
        have HMr := Lib.hid hMr
        have HID := Lib.hid hid
        have HYL : Hid (y = (bytesOf p id).length) := by show _ = _; omega
        have HOFF : Hid (offOf p ids (k + 1) = offOf p ids k + y) := by show _ = _; omega
        have HFACT : Hid (y ≤ c5 ∧ c5 ≤ maxLen ∧ r ≤ c5 ∧ y ≤ r ∧ 2 ≤ y ∧ r + offOf p ids k = n) := by refine ⟨?_, h3, ?_, ?_, ?_, ?_⟩ <;> omega
        have hkm' : (k : Int) ≤ 1000 := by omega
        have HKM := Lib.hid hkm
        clear h1 h2 h3 hPR hMr hoff hkl hid hx64 hxl hxle hsucc hnext hr hy hlen2 HR hkm hk
        by_cases hcy : c5 = y
        · subst hcy
          have hry : r = c5 := by have := HFACT.out; omega
          subst hry
          go_wp2_with (at_builtin; (refine wpList_append_part rfl (.tmp 35) (.tmp 39) rfl (by rfl) HPR.out HMr.out.size rfl (by rfl) HID.out HYL.out (Nat.le_refl _) HFACT.out.2.1 hkm' ?_); intro ap7 cp7 w7 hR7 hM7)
          go_roundw
          case rel => exact ⟨k + 1, by have := HKM.out; omega, some ⟨g, offOf p ids k, none⟩, 0, ap7, cp7, by rw [hrem.out, Nat.sub_self], rfl, fun h => by have h1 := HNEXT.out h; have h2 := HFACT.out; have h3 := HOFF.out; omega, by rw [hrem.out]; omega, by omega, hR7, hM7 HMr.out (Nat.le_refl _)⟩
          case measure => simp [lenV]; omega
        · have hcyi : ¬ (c5 : Int) = (y : Int) := by omega
          go_wp2_with (at_builtin; (refine wpList_append_part rfl (.tmp 35) (.tmp 39) rfl (by rfl) HPR.out HMr.out.size rfl (by rfl) HID.out HYL.out HFACT.out.1 HFACT.out.2.1 hkm' ?_); intro ap7 cp7 w7 hR7 hM7)
          go_roundw
          case rel => exact ⟨k + 1, by have := HKM.out; omega, some ⟨g, offOf p ids k + y, none⟩, c5 - y, ap7, cp7, by rw [hrem.out], rfl, fun h => ⟨by rw [HOFF.out], HNEXT.out h⟩, by rw [hrem.out]; have := HFACT.out; omega, by have := HFACT.out; omega, hR7, hM7 HMr.out (Nat.le_refl _)⟩
          case measure => simp [lenV]; omega
      · obtain rfl : k = m := by omega
        obtain ⟨h1, h2, h3, hPR, hMr⟩ := HR.out
        have hz : n - offOf p ids k = 0 := by
          rw [off_all p ids (by have := HMM.out; omega), HN.out, HLF.out]; omega
        rw [hz]
        obtain ⟨w4, rfl⟩ : ∃ w4, w4 = wr := ⟨_, rfl⟩
        obtain ⟨xs, hx1, _, hx2⟩ := hPR
        have hxl : xs.length = k := by simpa using hx1.1
        have hxne : xs ≠ [] := by
          intro e
          rw [e] at hxl
          have := HMP.out
          simp at hxl
          omega
        obtain ⟨b6, o6, cp', hv6, hcp1, hcp2, hcells⟩ := (Sl.ofOwn hx1).addr hxne
        simp only [Value.slice.injEq] at hv6
        obtain ⟨rfl, _, rfl⟩ := hv6
        have HX2 := Lib.hid hx2
        have HCELLS := Lib.hid hcells
        have HM4 := Lib.hid hMr
        have HROT := Lib.hid (read_rot HMB.out H16.out kn)
        rw [← HIDS.out] at HROT
        have hm0 : ¬ (k : Int) = 0 := by have := HMP.out; omega
        have hmi : (0 : Int) < (k : Int) := by have := HMP.out; omega
        have hcpk : (k : Int) ≤ (cp6 : Int) := by omega
        clear hz h1 h2 h3 hx1 hx2 hxl hxne hcells hMr HR hkm hk hcp1
        go_wp2_with fail
        go_loopw [8, 9] (fun s8 s9 wr => ∃ i : Nat, i ≤ k ∧ s9 = .int .i64 i ∧ ∃ ap8 cp8, s8 = .slice ap8 ((((rot ids kn).take i).flatMap (bytesOf p)).length) cp8 ∧ Hid (OwnB wr w4.heap.size (.slice ap8 ((((rot ids kn).take i).flatMap (bytesOf p)).length) cp8) (((rot ids kn).take i).flatMap (bytesOf p)) ∧ Mod (fun _ => False) w4 wr)) (fun _ s9 _ => k - (intOf s9).toNat)
        case atStart => exact ⟨0, Nat.zero_le _, rfl, none, 0, rfl, OwnB.nil _ _, Mod.refl _ _⟩
        case round =>
          obtain ⟨i, hi, rfl, ap8, cp8, rfl, HR⟩ := hrel
          by_cases hik : (i : Int) < k
          · have hil : i < ids.length := by have := HMM.out; omega
            obtain ⟨ix, hix⟩ : ∃ ix, ix = (i + kn) % k := ⟨_, rfl⟩
            have hixm : ix < k := by rw [hix]; exact Nat.mod_lt _ HMP.out
            have hixl : ix < ids.length := by have := HMM.out; omega
            have hid : ids[ix]? = some ids[ix] := List.getElem?_eq_getElem hixl
            have hrt : (rot ids kn)[i]? = some ids[ix] := by
              rw [rot_at ids kn i hil, ← HMM.out, ← hix, List.getD_eq_getElem?_getD, hid]
              rfl
            generalize ids[ix] = id at hid hrt
            obtain ⟨u, hu1, c, rfl, hc1, hc2'⟩ := HX2.out ix id hixm hid
            have hby0 := chunk_byts (v := .slice (some ⟨g, offOf p ids ix, none⟩) (bytesOf p id).length c) ((HM4.out.trans HR.out.2).blk HG.out (fun h => h)) HCUR.out ⟨c, rfl, hc1, hc2'⟩ (by
              have h1 := off_succ p ids ix id hid
              have h2 := off_le p ids (ix + 1)
              rw [HLF.out]; omega)
            rw [HLF.out, off_part p ids ix id hid] at hby0
            have HBY := Lib.hid hby0
            have hcell : wr.cell? ⟨b6, o6 + ix, none⟩ = some (.slice (some ⟨g, offOf p ids ix, none⟩) (bytesOf p id).length c) := HR.out.2.cellAt (HCELLS.out ix _ hu1) (fun h => h)
            have hmod : Int.tmod ((i : Int) + (kn : Int)) (k : Int) = (ix : Int) := by rw [hix]; exact (Int.ofNat_tmod (i + kn) k).symm
            have hlist : ((rot ids kn).take (i + 1)).flatMap (bytesOf p) = ((rot ids kn).take i).flatMap (bytesOf p) ++ bytesOf p id := by
              rw [take_snoc _ i id hrt, List.flatMap_append]; simp
            have HLIST := Lib.hid hlist
            have hlen8 : Hid ((((rot ids kn).take i).flatMap (bytesOf p)).length + (bytesOf p id).length ≤ 1000 ∧ (bytesOf p id).length ≤ 1000) := by
              have hb : ∀ id, (bytesOf p id).length ≤ 18 := fun id => by
                have h1 := oneL_len 1 p.i
                have h2 := tokL_len p H16.out
                have h3 := oneL_len 4 p.d
                have h4 := oneL_len 5 p.s
                have h5 := oneL_len 8 p.n
                unfold bytesOf
                split
                · omega
                · split
                  · omega
                  · split
                    · omega
                    · split
                      · omega
                      · split
                        · omega
                        · simp
              have hs : ∀ l : List Nat, (l.flatMap (bytesOf p)).length ≤ 18 * l.length := fun l => by
                induction l with
                | nil => simp
                | cons a l ih => rw [List.flatMap_cons, List.length_append, List.length_cons]; have := hb a; omega
              have h1 := hs ((rot ids kn).take i)
              have h2 := hb id
              have h3 : ((rot ids kn).take i).length ≤ 5 := by rw [List.length_take]; omega
              show _ ∧ _
              omega
            have hixi : (ix : Int) < (k : Int) := by omega
            have hix0 : (0 : Int) ≤ (ix : Int) := by omega
            have hkn : (kn : Int) ≤ 255 := hk1
            have hi5 : (i : Int) ≤ 5 := by omega
            generalize ((rot ids kn).take i).flatMap (bytesOf p) = acc at *
            obtain ⟨acc', hacc⟩ : ∃ x, x = ((rot ids kn).take (i + 1)).flatMap (bytesOf p) := ⟨_, rfl⟩
            have HACC := Lib.hid hacc
            rw [← hacc] at HLIST
            have HAN : Hid (acc.length + (bytesOf p id).length = acc'.length) := by show _ = _; rw [HLIST.out, List.length_append]
            have HAB : Hid ((acc'.length : Int) ≤ 140737488355328) := by show _ ≤ _; have h1 := hlen8.out; have h2 := HAN.out; omega
            clear hil hix hixm hixl hid hrt hu1 hc1 hc2' hby0 hlist hacc
            generalize hnid : (bytesOf p id).length = nid at *
            have HNID := Lib.hid hnid
            clear hnid
            generalize offOf p ids ix = ox at *
            go_wp2_with (at_builtin; go_must (refine wpList_append_b rfl (.tmp 50) (.tmp 60) (by rfl) (.slice ap8 acc.length cp8) acc w4.heap.size acc'.length (by rfl) HR.out.1 _ (bytesOf p id) (by rfl) HBY.out acc' HLIST.out (by rw [← HAN.out, HNID.out]) HAB.out HR.out.2.size ?_); intro ap9 cp9 w9 hA9)
            go_roundw
            case rel => exact ⟨i + 1, by omega, by go_num, ap9, cp9, by rw [← HACC.out], by rw [← HACC.out]; exact ⟨hA9.own, hA9.modF HR.out.2 (Nat.le_refl _)⟩⟩
            case measure => simp [intOf]; omega
          · obtain rfl : i = k := by omega
            have hall : (rot ids kn).take i = rot ids kn := List.take_of_length_le (by unfold rot; rw [List.length_map, List.length_range, HMM.out]; exact Nat.le_refl _)
            rw [hall] at HR ⊢
            obtain ⟨F, hF⟩ : ∃ F, F = (rot ids kn).flatMap (bytesOf p) := ⟨_, rfl⟩
            rw [← hF] at HR HROT ⊢
            have hFl : Hid ((F.length : Int) ≤ 100000) := by
              show _ ≤ _
              have hb : ∀ id, (bytesOf p id).length ≤ 18 := fun id => by
                have h1 := oneL_len 1 p.i
                have h2 := tokL_len p H16.out
                have h3 := oneL_len 4 p.d
                have h4 := oneL_len 5 p.s
                have h5 := oneL_len 8 p.n
                unfold bytesOf
                split
                · omega
                · split
                  · omega
                  · split
                    · omega
                    · split
                      · omega
                      · split
                        · omega
                        · simp
              have hs : ∀ l : List Nat, (l.flatMap (bytesOf p)).length ≤ 18 * l.length := fun l => by
                induction l with
                | nil => simp
                | cons a l ih => rw [List.flatMap_cons, List.length_append, List.length_cons]; have := hb a; omega
              have h1 := hs (rot ids kn)
              have h2 : (rot ids kn).length = ids.length := by unfold rot; rw [List.length_map, List.length_range]
              have h3 := HMM.out
              rw [hF]
              omega
            have hb9 : Byts wr (.slice ap8 F.length cp8) F := HR.out.1.byts
            have HP9 := Lib.hid (HP3.out.kept (HM4.out.trans HR.out.2))
            have HM9 := Lib.hid (HM3.out.trans (HM4.out.trans HR.out.2))
            clear hall hF HR
            go_wp2_with fail
            refine (read_c hb9 hFl.out HROT.out).mono ?_
            rintro e w7 ⟨rfl, hM7⟩
            have HP7 := Lib.hid (HP9.out.kept hM7)
            have HM7 := Lib.hid (HM9.out.trans hM7)
            clear hM7 HP9 HM9 hb9
            go_wp2_with (first | ((with_reducible refine wpList_store_blk ?_ 25 (.tmp 10) (.tmp 65) ?_ w7.heap.size ?_ _ (pmC p) ?_ 25 (Blk.new _ _ _) ZP.out ?_ OP.out ?_); (· exact rfl); (· exact rfl); (· exact rfl); (· exact rfl); (· rw [pmC_size p H16.out]; rfl); intro w8 hB hM; obtain ⟨hP8, hM8⟩ := pm_new hB hM H16.out; have HM8 := Lib.hid (HM7.out.trans hM8); have l2 := (HP7.out.kept hM8).load; have l10 := hP8.load; clear hB hM hP8 hM8 HM7) | ((with_reducible refine wpList_load_g 25 (.tmp 10) ?_ ?_ (.pointer (some ⟨w7.heap.size, 0, none⟩)) (.agg (pmC p)) ?_ l10 ?_); (· exact rfl); (· exact rfl); (· exact rfl)) | ((with_reducible refine wpList_load_g 25 (.tmp 2) ?_ ?_ (.pointer (some ⟨w.heap.size, 0, none⟩)) (.agg (pmC p)) ?_ l2 ?_); (· exact rfl); (· exact rfl); (· exact rfl)) | ((with_reducible refine wpList_eq_g .eql 25 25 (.tmp 70) (.tmp 71) ?_ ?_ (pmC p) (pmC p) ?_ ?_ guard25 true (HEQ.out _) ?_); (· exact rfl); (· exact rfl); (· exact rfl); (· exact rfl)))
            go_ret
            exact ⟨rfl, HM8.out.below (Nat.le_refl _) (fun _ _ h => h.elim)⟩
end Go.Proofs.YtacgcpofpmkgnaaDoor
