/- Parts of the proof: UaX OpR UaY. -/
import Derived.Test.YtahgidkpjmecdaaGreatDoorB01
import Derived.Test.YtahgidkpjmecdaaGreatDoorB28
import Derived.Lib.SmallJoins
import Derived.Deep.SlicePairs
set_option maxRecDepth 100000
namespace Go.Proofs.YtahgidkpjmecdaaGreatDoor
open Go.RowKit Go.Maps
set_option maxHeartbeats 8000000 in
set_option maxRecDepth 10000 in
theorem alive_any (W : World) (hT : Tabs W) (hU : UTabs W) : Calls Tryz.prog 7 #[] W fun e w' => e = .returned (.bool true) ∧ Mod (fun _ => False) W w' := by
 have HT := Lib.hid hT
 have HU := Lib.hid hU
 clear hT hU
 have HS0 := Lib.hid (At.start W)
 have kc := fun (w : World) (C : Array Value) (n c : Nat) => Lib.run_convert_bytes_const (P := Tryz.prog) w 31 5 C n c Tryz.underlying31 Tryz.underlying5
 have kc2 : ∀ (w : World) (D C : Array Value) (ty : TypeId) (n c : Nat), (convert 31 31 (.slice (some ⟨w.heap.size + 1, 0, none⟩) n c)).run Tryz.prog ((w.alloc (.cells D ty)).alloc (.cells C 5)) = .ok (.slice (some ⟨w.heap.size + 1, 0, none⟩) n c) ((w.alloc (.cells D ty)).alloc (.cells C 5 (C.size, C.size + 1))) := by
  intro w D C ty n c
  have h := kc (w.alloc (.cells D ty)) C n c
  rw [show (w.alloc (.cells D ty)).heap.size = w.heap.size + 1 by simp] at h
  exact h
 go_enter Tryz.func7, Tryz.ntmps7
 (try simp only [List.append])
 go_wp2_with (first
  | (go_at_call 8; (have HC := Lib.hid (tables_s HS0.out)); (with_reducible refine HC.out.mono ?_); clear HC; rintro e w1 ⟨ta, ma, Ga, tb, mb, Gb, rfl, hs⟩; have HS1 := Lib.hid hs; clear hs)
  | (go_at_call 9; (have HC := Lib.hid (snew_s HS1.out true)); (with_reducible refine HC.out.mono ?_); clear HC; rintro e w2 ⟨sc, mc, Gc, rfl, hs⟩; have HS2 := Lib.hid hs; clear hs)
  | (go_at_call 9; (have HC := Lib.hid (snew_s HS2.out false)); (with_reducible refine HC.out.mono ?_); clear HC; rintro e w3 ⟨ss, ms, Gs, rfl, hs⟩; have HS3 : Hid (At W w3 (sesTh W.heap.size sc mc Gc (ses0 true) nilS :: tabTh W.heap.size ta ma Ga tabC :: sesTh W.heap.size ss ms Gs (ses0 false) nilS :: tabTh W.heap.size tb mb Gb tabS :: [])) := Lib.hid (At.fours hs); clear hs)
  | (go_at_call 10; (have HC := Lib.hid (startC_s HS3.out HT.out)); (with_reducible refine HC.out.mono ?_); clear HC; rintro e w4 ⟨rfl, Gc4, Ga4, hs⟩; have HS4 := Lib.hid (At.flip hs); clear hs)
  | (go_at_call 10; (have HC := Lib.hid (startS_s HS4.out HT.out)); (with_reducible refine HC.out.mono ?_); clear HC; rintro e w5 ⟨rfl, Gs5, Gb5, hs⟩; have HS5 := Lib.hid (At.flip hs); clear hs)
  | (go_at_call 10; (have HC := Lib.hid (start_twice [] (tb := ta) HS5.out (S := xc1) flagsA.2.1)); (with_reducible refine HC.out.mono ?_); clear HC; rintro e w6 ⟨rfl, rfl⟩)
  | (go_at_call 11; (have HC := Lib.hid (askA_s HS5.out HT.out HU.out)); (with_reducible refine (HC.out _).mono ?_); clear HC; rintro e w7 ⟨rfl, Gc7, Ga7, hs⟩; have HS7 : Hid (At W w7 (sesTh W.heap.size sc mc Gc7 xc2 nilS :: tabTh W.heap.size ta ma Ga7 xa2 :: sesTh W.heap.size ss ms Gs5 xs1 nilS :: tabTh W.heap.size tb mb Gb5 xb1 :: blkTh w5.heap.size pathC 39 :: [])) := Lib.hid (At.last4 (At.front [_, _] hs)); clear hs)
  | (go_at_call 15; (have HC := Lib.hid (carry1_s (At.fours HS7.out) HT.out)); (with_reducible refine HC.out.mono ?_); clear HC; rintro e w8 ⟨rfl, Ga8, Gb8, hs⟩; have HS8 := Lib.hid (At.flip (At.fours' hs)); clear hs)
  | (go_at_call 16; (have HC := Lib.hid (look1_s HS8.out HU.out)); (with_reducible refine HC.out.mono ?_); clear HC; rintro e w9 ⟨Gs9, Gb9, X9, xa, xc, rfl, hs⟩; (obtain ⟨gx, vbx, rfl, c9, _, _⟩ := ev_at (l := []) hs (i := 0) (e := evA) rfl); (have c9 : w9.cell? ⟨gx, 0, none⟩ = some (.int .i64 1) := c9); have HS9 := Lib.hid (At.last4 hs); clear hs)
  | (go_at_call 12; (have HC := Lib.hid (open1_s HS9.out)); (with_reducible refine HC.out.mono ?_); clear HC; rintro e w10 ⟨oa, oc, rfl, hs⟩; have HS10 := Lib.hid hs; clear hs)
  | (go_at_call 13; (have HC := Lib.hid (ansA_s HS10.out HT.out HU.out (At.get [_, _, _, _, _] HS10.out))); (with_reducible refine HC.out.mono ?_); clear HC; rintro e w11 ⟨rfl, Gs11, Gb11, hs⟩; have HS11 := Lib.hid hs; clear hs)
  | (go_at_call 14; (have HC := Lib.hid (goA_s HS11.out HT.out)); (with_reducible refine HC.out.mono ?_); clear HC; rintro e w12 ⟨rfl, Gs12, Gb12, hs⟩; have HS12 := Lib.hid (At.flip hs); clear hs)
  | (go_at_call 15; (have HC := Lib.hid (carry2_s (At.fours HS12.out) HT.out)); (with_reducible refine HC.out.mono ?_); clear HC; rintro e w13 ⟨rfl, Ga13, Gb13, hs⟩; have HS13 := Lib.hid (At.fours' hs); clear hs)
  | (go_at_call 16; (have HC := Lib.hid (look2_s HS13.out HU.out)); (with_reducible refine HC.out.mono ?_); clear HC; rintro e w14 ⟨Gc14, Ga14, X14, ya, yc, rfl, hs⟩; (obtain ⟨gy, _, rfl, _, _, _⟩ := ev_at (l := []) hs (i := 0) (e := evB) rfl); have HS14 := Lib.hid (At.last4 hs); clear hs)
  | (go_at_call 19; (have HC := Lib.hid (limit_s [] HS14.out)); (with_reducible refine HC.out.mono ?_); clear HC; rintro e w15 ⟨he, hm⟩; (rw [flagsD.2.2.2.1, flagsD.2.2.2.2] at he); subst he; have HS15 := Lib.hid (HS14.out.still hm); clear hm)
  | (go_at_call 21; (have HC := Lib.hid (over_s [] HS15.out)); (with_reducible refine HC.out.mono ?_); clear HC; rintro e w16 ⟨he, hm⟩; (rw [flagsD.2.2.1] at he); subst he; have h16 := HS15.out.still hm; (obtain ⟨g2, vb2, e2, _, d16, o16⟩ := ev_at (l := [_, _, _, _, _]) h16 (i := 0) (e := evA) rfl); (obtain ⟨g3, _, e3, k16, _, _⟩ := ev_at (l := [_, _, _, _]) h16 (i := 0) (e := evB) rfl); (obtain ⟨g4, _, e4, l16, _, _⟩ := ev_at (l := [_, _, _, _]) h16 (i := 1) (e := leaveE 4) rfl); (simp only [Option.some.injEq, Addr.mk.injEq, and_true] at e2 e3 e4); (subst e2 e3 e4); (have d16 : w16.cell? ⟨gx, 3, none⟩ = some vb2 := d16); (have k16 : w16.cell? ⟨gy, 0, none⟩ = some (.int .i64 2) := k16); (have l16 : w16.cell? ⟨gy, 5, none⟩ = some (.int .i64 4) := l16); (have hcv : (convert 31 9 vb2).run Tryz.prog w16 = .ok (.string ⟨#[98, 111, 100, 121]⟩) w16 := conv_any o16.byts); have HS16 := Lib.hid h16; clear hm h16 o16)
  | (go_at_call 11; (have HC := Lib.hid (ask_no [] (tb := ta) HS16.out flagsD.1 flagsD.2.1 flagsD.2.2.1 flagsD.2.2.2.1 (.slice (some ⟨w5.heap.size, 0, none⟩) 1 1) (.slice none 0 0))); (with_reducible refine HC.out.mono ?_); clear HC; rintro e w17 ⟨rfl, rfl⟩)
  | (go_at_call 12; (have HC := Lib.hid (open2_s HS16.out)); (with_reducible refine HC.out.mono ?_); clear HC; rintro e w18 ⟨oa2, oc2, rfl, hs⟩; have HS18 := Lib.hid hs; clear hs)
  | (go_at_call 20; (have HC := Lib.hid (safe2_s HS18.out)); (with_reducible refine HC.out.mono ?_); clear HC; rintro e w19 ⟨oa3, oc3, rfl, hs⟩; have HS19 := Lib.hid hs; clear hs)
  | fail)
 go_ret
 exact ⟨rfl, HS19.out.fin⟩
end Go.Proofs.YtahgidkpjmecdaaGreatDoor
set_option maxRecDepth 100000
namespace Go.Proofs.YtahgidkpjmecdaaGreatDoor
open Go.Joins Go.ChangeShapes Go.WideShapes Go.RowKit Go.Deep
theorem list_of {α : Type} : ∀ (n : Nat) (Q : Nat → α → Prop), (∀ i, i < n → ∃ x, Q i x) → ∃ l : List α, l.length = n ∧ ∀ i x, l[i]? = some x → Q i x
 | 0, _, _ => ⟨[], rfl, fun i x h => by simp at h⟩
 | n + 1, Q, h => by
  obtain ⟨l, hl, hq⟩ := list_of n Q (fun i hi => h i (by omega))
  obtain ⟨x, hx⟩ := h n (by omega)
  refine ⟨l ++ [x], by simp [hl], fun i y hy => ?_⟩
  by_cases hi : i < l.length
  ·rw [List.getElem?_append_left hi] at hy
   exact hq i y hy
  ·rw [List.getElem?_append_right (by omega)] at hy
   have h0 : i - l.length = 0 := by
    have := (List.getElem?_eq_some_iff.1 hy).1
    simp at this
    omega
   rw [h0] at hy
   simp at hy
   subst hy
   rw [show i = n by omega]
   exact hx
theorem flat_len {α : Type} {f : α → List Value} {sz : Nat} (hf : ∀ x, (f x).length = sz) : ∀ l : List α, (l.flatMap f).length = l.length * sz
 | [] => by simp
 | x :: l => by rw [List.flatMap_cons, List.length_append, hf, flat_len hf l, List.length_cons, Nat.succ_mul]; omega
theorem flat_inv {α : Type} {f : α → List Value} {sz : Nat} (hf : ∀ x, (f x).length = sz) : ∀ (l : List α) (j : Nat) (u : Value), (l.flatMap f)[j]? = some u → ∃ i x k, l[i]? = some x ∧ (f x)[k]? = some u ∧ j = i * sz + k
 | [], j, u, h => by simp at h
 | x :: l, j, u, h => by
  rw [List.flatMap_cons] at h
  by_cases hj : j < (f x).length
  ·rw [List.getElem?_append_left hj] at h
   exact ⟨0, x, j, rfl, h, by omega⟩
  ·rw [List.getElem?_append_right (by omega)] at h
   obtain ⟨i, y, k, h1, h2, h3⟩ := flat_inv hf l _ u h
   refine ⟨i + 1, y, k, by simpa using h1, h2, ?_⟩
   have := hf x
   rw [Nat.succ_mul]
   omega
theorem add_plain {a : Addr} (h : a.spot = none) (j : Nat) : a.add j = ⟨a.block, a.off + j, none⟩ := by
 unfold Addr.add
 obtain ⟨ab, ao, sp⟩ := a
 simp only at h
 subst h
 split
 ·rename_i h0; subst h0; rfl
 ·rfl
theorem add_add' (a : Addr) (h : a.spot = none) (i j : Nat) : (a.add i).add j = ⟨a.block, a.off + i + j, none⟩ := by
 rw [add_plain h, add_plain rfl]
theorem sl_rows {α : Type} {W : World} {a : Addr} {len cap sz : Nat} (f : α → List Value) (hf : ∀ x, (f x).length = sz) (hz : 0 < sz) (l : List α) (hl : l.length = len) (hc : len ≤ cap) (hm : cap ≤ maxLen)
  (h : ∀ i x, l[i]? = some x → ∀ j u, (f x)[j]? = some u → W.cell? ((a.add (i * sz)).add j) = some u) : Sl W sz (.slice (some a) len cap) len (l.flatMap f) := by
 refine ⟨by rw [flat_len hf, hl], some a, cap, rfl, hc, hm, fun h => by simp at h, fun j u hu => ?_⟩
 obtain ⟨i, x, k, h1, h2, rfl⟩ := flat_inv hf l j u hu
 have h0 : 0 < l.length := by have := (List.getElem?_eq_some_iff.1 h1).1; omega
 have hsp : a.spot = none := by
  obtain ⟨y, hy⟩ : ∃ y, l[0]? = some y := ⟨_, List.getElem?_eq_getElem h0⟩
  obtain ⟨u0, hu0⟩ : ∃ u, (f y)[0]? = some u := ⟨_, List.getElem?_eq_getElem (by rw [hf]; exact hz)⟩
  have := h 0 y hy 0 u0 hu0
  rw [Nat.zero_mul] at this
  cases hs : a.spot with
  | none => rfl
  | some q =>
   exfalso
   have e : (a.add 0).add 0 = a := by simp [Addr.add]
   rw [e] at this
   unfold World.cell? at this
   rw [hs] at this
   split at this <;> simp at this
 have := h i x h1 k u h2
 rw [add_add' a hsp] at this
 exact ⟨a.block, a.off, by obtain ⟨ab, ao, sp⟩ := a; simp only at hsp; subst hsp; rfl, by rw [← Nat.add_assoc]; exact this⟩
theorem open_rows {H : Type} {enc : TypeId × Value → H} {W : World} {α : Type} {T E : TypeId} {sz : Nat} (f : α → List Value) (hf : ∀ x, (f x).length = sz) (hz : 0 < sz) (ok : α → Prop) (hT : Tryz.prog.underlying T = some (.slice E)) (hE : Program.cellsOf Tryz.prog E = sz)
  (hel : ∀ (fuel : Nat) (cs : List Value) (y : DataW H × List MemPlace), cs.length = sz → DataW.trod enc Tryz.prog W 0 (fun _ => true) true fuel E cs = some y → ∃ x, cs = f x ∧ ok x)
  {v : Value} {d : DataW H} {p : List MemPlace} {base : Nat} (hval : Value.okWide Tryz.prog W .any base T v) (h : DataW.Trod enc Tryz.prog W 0 (fun _ => true) true T v d p) :
  ∃ l : List α, Sl W sz v l.length (l.flatMap f) ∧ ∀ x ∈ l, ok x := by
 obtain ⟨a0, len, cap, rfl⟩ := okWide_slice hT hval
 obtain ⟨fuel, hfu⟩ := h
 rcases open_slice hT hfu with ⟨hcs, _⟩ | ⟨a, len', cap', m, n, D, Pl, hcs, _, hl, hm, hmm, _, hx⟩
 ·simp [Value.cells] at hcs
  obtain ⟨rfl, rfl, rfl⟩ := hcs
  exact ⟨[], Sl.nil _ _, by simp⟩
 ·simp [Value.cells] at hcs
  obtain ⟨rfl, rfl, rfl⟩ := hcs
  have hmm' : m = cap := by simpa using hmm
  have each : ∀ i, i < len → ∃ x : α, (∀ j u, (f x)[j]? = some u → W.cell? ((a.add (i * sz)).add j) = some u) ∧ ok x := by
   intro i hi
   obtain ⟨cs', h1, h2⟩ := hx i (by omega)
   rw [hE] at h1
   obtain ⟨_, hlen, hcell⟩ := World.cells?_some h1
   obtain ⟨x, rfl, hin⟩ := hel _ _ _ hlen h2
   refine ⟨x, fun j u hu => ?_, hin⟩
   have hj := (List.getElem?_eq_some_iff.1 hu).1
   have hj' := hf x
   have := hcell j (by omega)
   rw [this]
   exact hu
  obtain ⟨l, hll, hq⟩ := list_of len _ each
  refine ⟨l, ?_, fun x hx => ?_⟩
  ·rw [hll]
   exact sl_rows f hf hz l hll hl hm (fun i x hi => (hq i x hi).1)
  ·obtain ⟨i, hi⟩ := List.getElem?_of_mem hx
   exact (hq i x hi).2
end Go.Proofs.YtahgidkpjmecdaaGreatDoor
set_option maxRecDepth 100000
namespace Go.Proofs.YtahgidkpjmecdaaGreatDoor
open Go.RowKit Go.Maps
def u16L (x : Nat) : List Value := [.int .u16 (x : Int)]
theorem open_u16s {H : Type} {enc : TypeId × Value → H} {W : World} {v : Value} {d : DataW H} {p : List MemPlace} {base : Nat} (hval : Value.okWide Tryz.prog W .any base 56 v) (h : DataW.Trod enc Tryz.prog W 0 (fun _ => true) true 56 v d p) :
  ∃ l : List Nat, Sl W 1 v l.length (l.flatMap u16L) ∧ ∀ x ∈ l, x ≤ 65535 :=
 open_rows u16L (fun _ => rfl) (by decide) (fun x => x ≤ 65535) Tryz.underlying56 (by kernel_rfl) (fun fuel cs y hl hf => by
  match cs, hl with
  | [c0], _ =>
   obtain ⟨n0, e0, _, w0⟩ := DataW.trod_int Tryz.underlying35 hf
   have b0 := bounds_u16 w0
   exact ⟨n0.toNat, by simp at e0; rw [e0]; unfold u16L; rw [Int.toNat_of_nonneg b0.1], by omega⟩) hval h
theorem u16s_at {w : World} {v : Value} {l : List Nat} {i : Nat} {b : Nat} (h : Sl w 1 v l.length (l.flatMap u16L)) (hi : l[i]? = some b) : ∃ g off cap, v = .slice (some ⟨g, off, none⟩) l.length cap ∧ w.cell? ⟨g, off + i, none⟩ = some (.int .u16 (b : Int)) := by
 have e0 : ∀ l : List Nat, l.flatMap u16L = l.map (fun (b : Nat) => Value.int .u16 (b : Int)) := fun l => by
  induction l with
  | nil => rfl
  | cons x l ih => rw [List.flatMap_cons, ih]; rfl
 have e := e0 l
 have hc : (l.flatMap u16L)[i]? = some (.int .u16 (b : Int)) := by rw [e, List.getElem?_map, hi]; rfl
 obtain ⟨g, off, cap, hv, _, _, hc2⟩ := Sl.addr h (fun e2 => by rw [e2] at hc; cases hc)
 exact ⟨g, off, cap, hv, hc2 i _ hc⟩
theorem Mod.none_belowU {w w' : World} (h : Mod (fun _ => False) w w') : Below w.heap.size w w' := h.below (Nat.le_refl _) (fun _ _ h => h.elim)
structure FI (S : Ses) (i : Nat) : Prop where
 client : S.client = false
 started : S.started = true
 over : S.over = false
 wrote : S.wrote ≤ 24 * i
 lim : S.limit ≤ 65535
theorem fi0 : FI xs1 0 ∧ xs1.limit = 0 ∧ xs1.limited = false := ⟨⟨by kernel_rfl, by kernel_rfl, by kernel_rfl, of_decide_eq_true (by kernel_rfl), of_decide_eq_true (by kernel_rfl)⟩, by kernel_rfl, by kernel_rfl⟩
theorem FI.yes {S : Ses} {i x : Nat} (h : FI S i) (hi : i < 40) (hx : x ≤ 65535) (h4 : x % 4 = 0) (hl : ¬ (S.limited = true ∧ S.limit < x)) : goE S x = 0 ∧ FI (goS S x) (i + 1) ∧ (goS S x).limit = x ∧ (goS S x).limited = true := by
 have h1 := goL_len (id := x)
 have h2 := h.wrote
 have e0 : topN = 4611686018427387903 := rfl
 have e : goE S x = 0 := by
  unfold goE
  rw [if_neg (by
   rintro (e | e | e)
   ·exact e h4
   ·omega
   ·exact hl e), if_neg (by omega)]
 refine ⟨e, ?_⟩
 unfold goS
 rw [if_pos e]
 exact ⟨⟨h.client, h.started, h.over, (by show S.wrote + _ ≤ _; omega), hx⟩, rfl, rfl⟩
theorem FI.no {S : Ses} {i x : Nat} (h : FI S i) (hn : x % 4 ≠ 0 ∨ (S.limited = true ∧ S.limit < x)) : goE S x = 1 ∧ FI (goS S x) (i + 1) ∧ (goS S x).limit = S.limit ∧ (goS S x).limited = S.limited := by
 have e : goE S x = 1 := by
  unfold goE
  rw [if_pos (by
   rcases hn with e | e
   ·exact .inl e
   ·exact .inr (.inr e))]
 refine ⟨e, ?_⟩
 unfold goS
 rw [if_neg (by rw [e]; decide)]
 have h2 := h.wrote
 exact ⟨⟨h.client, h.started, h.over, (by omega), h.lim⟩, rfl, rfl⟩
theorem go_of {W w : World} {sb mb tb mt : Nat} {G : Int → PM} {S : Ses} {GT : Int → SM} {T : Tb} {m : List Th} (h : At W w (sesTh W.heap.size sb mb G S nilS :: tabTh W.heap.size tb mt GT T :: m)) (hT : Tabs W) {i x : Nat} (hF : FI S i) (hx : x ≤ 65535) {z : Int} {S' : Ses} (hz : goE S x = z) (hS : goS S x = S') :
  Calls Tryz.prog 14 #[.pointer (some ⟨sb, 0, none⟩), .pointer (some ⟨tb, 0, none⟩), .int .u64 (x : Int)] w fun e w' => e = .returned (.int .i64 z) ∧ ∃ G' T' GT', At W w' (sesTh W.heap.size sb mb G' S' nilS :: tabTh W.heap.size tb mt GT' T' :: m) := by
 refine (goaway_s h hT hF.client hF.started hF.over (id := x) (by omega)).mono ?_
 rintro e w' ⟨he, G', GT', h4⟩
 rw [hz] at he
 rw [hS] at h4
 exact ⟨he, G', _, GT', h4⟩
set_option maxHeartbeats 8000000 in
set_option maxRecDepth 10000 in
theorem falls_true {W : World} (hT : Tabs W) (hU : UTabs W) {v : Value} {l : List Nat} (hl : Sl W 1 v l.length (l.flatMap u16L)) (hk : ∀ x ∈ l, x ≤ 65535) (h40 : l.length ≤ 40) :
  Calls Tryz.prog 5 #[v] W fun e w' => e = .returned (.bool true) ∧ Below W.heap.size W w' := by
 obtain ⟨va, vc, rfl, -⟩ := Sl.val hl
 have HAL := Lib.hid (alive_any W hT hU)
 have HTT := Lib.hid hT
 have HSL := Lib.hid hl
 have HK := Lib.hid hk
 have t1 : decide ((40 : Int) < (l.length : Int)) = false := decide_eq_false (by omega)
 have t1' : decide (40 < l.length) = false := decide_eq_false (by omega)
 have hnb : (l.length : Int) ≤ 40 := by omega
 clear hT hU hl hk h40
 generalize hn : l.length = nl at *
 have HN := Lib.hid hn
 clear hn
 go_enter Tryz.func5, Tryz.ntmps5
 go_wp2_with (first
  | (go_at_call 7; (with_reducible refine HAL.out.mono ?_); rintro e w0 ⟨rfl, hm⟩; have HS0 := Lib.hid ((At.start W).still hm); clear hm)
  | (go_at_call 8; (have HC := Lib.hid (tables_s HS0.out)); (with_reducible refine HC.out.mono ?_); clear HC; rintro e w1 ⟨ta, ma, Ga, tb, mb, Gb, rfl, hs⟩; have HS1 := Lib.hid hs; clear hs)
  | (go_at_call 9; (have HC := Lib.hid (snew_s HS1.out false)); (with_reducible refine HC.out.mono ?_); clear HC; rintro e w2 ⟨sb, ms, Gs, rfl, hs⟩; have HS2 := Lib.hid hs; clear hs)
  | (go_at_call 10; (have HC := Lib.hid (startS_s HS2.out HTT.out)); (with_reducible refine HC.out.mono ?_); clear HC; rintro e w3 ⟨rfl, Gs3, Gb3, hs⟩; have HS3 := Lib.hid hs; clear hs)
  | fail)
 go_loopw [6, 7, 8] (fun s6 s7 s8 wr => ∃ (i : Nat) (S : Ses) (T : Tb) (G : Int → PM) (GT : Int → SM) (y : Nat) (b : Bool), i ≤ nl ∧ s6 = .int .u64 (y : Int) ∧ s7 = .bool b ∧ s8 = .int .i64 (i : Int) ∧ y ≤ 65535 ∧ Hid (FI S i ∧ S.limit = y ∧ S.limited = b ∧ At W wr (sesTh W.heap.size sb ms G S nilS :: tabTh W.heap.size tb mb GT T :: [tabTh W.heap.size ta ma Ga tabC]))) (fun _ _ s8 _ => nl - (intOf s8).toNat)
 case atStart => exact ⟨0, xs1, xb1, Gs3, Gb3, 0, false, Nat.zero_le _, rfl, rfl, rfl, by omega, Lib.hid ⟨fi0.1, fi0.2.1, fi0.2.2, HS3.out⟩⟩
 case round =>
  obtain ⟨i, S, T, G, GT, y, b, hi, rfl, rfl, rfl, hy, HI⟩ := hrel
  by_cases hin : i < nl
  ·obtain ⟨x, hx⟩ : ∃ x, l[i]? = some x := ⟨_, List.getElem?_eq_getElem (by rw [HN.out]; exact hin)⟩
   have hx6 := HK.out x (List.mem_of_getElem? hx)
   obtain ⟨g, off, cap, e, hcell⟩ := u16s_at (by have h := HSL.out; rw [← HN.out] at h; exact h) hx
   simp only [Value.slice.injEq] at e
   obtain ⟨rfl, -, rfl⟩ := e
   have cx : wr.cell? ⟨g, off + i, none⟩ = some (.int .u16 (x : Int)) := (HI.out.2.2.2.fin).cellAt (hcell) (fun h => h)
   have ti : decide ((i : Int) < (nl : Int)) = true := decide_eq_true (by omega)
   have ti' : decide (i < nl) = true := decide_eq_true hin
   have HIN := Lib.hid hin
   have u1 : IntKind.u64.wrap (x : Int) = (x : Int) := IntWalk.u64_in _ (by omega)
   have x0 : (0 : Int) ≤ (x : Int) := by omega
   have x1 : (x : Int) ≤ 65535 := by omega
   have hil : i < nl := hin
   have hi40 : i < 40 := by omega
   have HX := Lib.hid hx6
   clear hx hcell
   by_cases h4 : x % 4 = 0
   ·have t4 : (x : Int) % 4 = 0 := by omega
    cases b with
    | false =>
     obtain ⟨S2, hS2⟩ : ∃ S2, goS S x = S2 := ⟨_, rfl⟩
     have hq := FI.yes HI.out.1 hi40 hx6 h4 (fun e => by have h1 := e.1; rw [HI.out.2.2.1] at h1; cases h1)
     rw [hS2] at hq
     have HQ := Lib.hid hq
     have HG := Lib.hid (go_of HI.out.2.2.2 HTT.out HI.out.1 hx6 hq.1 hS2)
     clear hq hS2 h4
     go_wp2_with (first
      | (go_at_call 14; go_loud ((with_reducible refine HG.out.mono ?_); rintro e w5 ⟨rfl, G5, T5, GT5, h5⟩; have HS5 := Lib.hid h5; clear h5))
      | (go_at_call 19; go_loud ((have HC := Lib.hid (limit_s [] HS5.out)); (with_reducible refine HC.out.mono ?_); clear HC; rintro e w6 ⟨he, hm⟩; (rw [HQ.out.2.2.1, HQ.out.2.2.2] at he); subst he; have HS6 := Lib.hid (HS5.out.still hm); clear hm))
      | fail)
     go_roundw
     case rel => exact ⟨i + 1, S2, T5, G5, GT5, x, true, by have := HIN.out; omega, rfl, rfl, by simp, by have := HX.out; omega, Lib.hid ⟨HQ.out.2.1, HQ.out.2.2.1, HQ.out.2.2.2, HS6.out⟩⟩
     case measure => have := HIN.out; simp [intOf]; omega
    | true =>
     by_cases hle : x ≤ y
     ·have tl : (x : Int) ≤ (y : Int) := by omega
      have tl' : decide ((x : Int) ≤ (y : Int)) = true := decide_eq_true tl
      have tl2 : decide (x ≤ y) = true := decide_eq_true hle
      obtain ⟨S2, hS2⟩ : ∃ S2, goS S x = S2 := ⟨_, rfl⟩
      have hq := FI.yes HI.out.1 hi40 hx6 h4 (fun e => by have h1 := e.2; rw [HI.out.2.1] at h1; omega)
      rw [hS2] at hq
      have HQ := Lib.hid hq
      have HG := Lib.hid (go_of HI.out.2.2.2 HTT.out HI.out.1 hx6 hq.1 hS2)
      clear hq hS2 h4
      go_wp2_with (first
       | (go_at_call 14; go_loud ((with_reducible refine HG.out.mono ?_); rintro e w5 ⟨rfl, G5, T5, GT5, h5⟩; have HS5 := Lib.hid h5; clear h5))
       | (go_at_call 19; go_loud ((have HC := Lib.hid (limit_s [] HS5.out)); (with_reducible refine HC.out.mono ?_); clear HC; rintro e w6 ⟨he, hm⟩; (rw [HQ.out.2.2.1, HQ.out.2.2.2] at he); subst he; have HS6 := Lib.hid (HS5.out.still hm); clear hm))
       | fail)
      go_roundw
      case rel => exact ⟨i + 1, S2, T5, G5, GT5, x, true, by have := HIN.out; omega, rfl, rfl, by simp, by have := HX.out; omega, Lib.hid ⟨HQ.out.2.1, HQ.out.2.2.1, HQ.out.2.2.2, HS6.out⟩⟩
      case measure => have := HIN.out; simp [intOf]; omega
     ·have tl : ¬ (x : Int) ≤ (y : Int) := by omega
      have tl' : decide ((x : Int) ≤ (y : Int)) = false := decide_eq_false tl
      have tl2 : decide (x ≤ y) = false := decide_eq_false hle
      obtain ⟨S2, hS2⟩ : ∃ S2, goS S x = S2 := ⟨_, rfl⟩
      have hq := (show goE S x = 1 ∧ FI (goS S x) (i + 1) ∧ (goS S x).limit = y ∧ (goS S x).limited = true from (by have h9 := FI.no (x := x) HI.out.1 (.inr ⟨HI.out.2.2.1, by rw [HI.out.2.1]; omega⟩); rw [HI.out.2.1, HI.out.2.2.1] at h9; exact h9))
      rw [hS2] at hq
      have HQ := Lib.hid hq
      have HG := Lib.hid (go_of HI.out.2.2.2 HTT.out HI.out.1 hx6 hq.1 hS2)
      clear hq hS2 h4
      go_wp2_with (first
       | (go_at_call 14; go_loud ((with_reducible refine HG.out.mono ?_); rintro e w5 ⟨rfl, G5, T5, GT5, h5⟩; have HS5 := Lib.hid h5; clear h5))
       | (go_at_call 19; go_loud ((have HC := Lib.hid (limit_s [] HS5.out)); (with_reducible refine HC.out.mono ?_); clear HC; rintro e w6 ⟨he, hm⟩; (rw [HQ.out.2.2.1, HQ.out.2.2.2] at he); subst he; have HS6 := Lib.hid (HS5.out.still hm); clear hm))
       | fail)
      go_roundw
      case rel => exact ⟨i + 1, S2, T5, G5, GT5, y, true, by have := HIN.out; omega, rfl, rfl, by simp, by have := HX.out; omega, Lib.hid ⟨HQ.out.2.1, HQ.out.2.2.1, HQ.out.2.2.2, HS6.out⟩⟩
      case measure => have := HIN.out; simp [intOf]; omega
   ·have t4 : ¬ (x : Int) % 4 = 0 := by omega
    obtain ⟨S2, hS2⟩ : ∃ S2, goS S x = S2 := ⟨_, rfl⟩
    have hq := (show goE S x = 1 ∧ FI (goS S x) (i + 1) ∧ (goS S x).limit = y ∧ (goS S x).limited = b from (by have h9 := FI.no (x := x) HI.out.1 (.inl h4); rw [HI.out.2.1, HI.out.2.2.1] at h9; exact h9))
    rw [hS2] at hq
    have HQ := Lib.hid hq
    have HG := Lib.hid (go_of HI.out.2.2.2 HTT.out HI.out.1 hx6 hq.1 hS2)
    clear hq hS2 h4
    go_wp2_with (first
     | (go_at_call 14; go_loud ((with_reducible refine HG.out.mono ?_); rintro e w5 ⟨rfl, G5, T5, GT5, h5⟩; have HS5 := Lib.hid h5; clear h5))
     | (go_at_call 19; go_loud ((have HC := Lib.hid (limit_s [] HS5.out)); (with_reducible refine HC.out.mono ?_); clear HC; rintro e w6 ⟨he, hm⟩; (rw [HQ.out.2.2.1, HQ.out.2.2.2] at he); subst he; have HS6 := Lib.hid (HS5.out.still hm); clear hm))
     | fail)
    go_roundw
    case rel => exact ⟨i + 1, S2, T5, G5, GT5, y, b, by have := HIN.out; omega, rfl, rfl, by simp, by have := HX.out; omega, Lib.hid ⟨HQ.out.2.1, HQ.out.2.2.1, HQ.out.2.2.2, HS6.out⟩⟩
    case measure => have := HIN.out; simp [intOf]; omega
  ·have ti : decide ((i : Int) < (nl : Int)) = false := decide_eq_false (by omega)
   have ti' : decide (i < nl) = false := decide_eq_false hin
   clear hin
   go_wp2_with fail
   go_ret
   exact ⟨rfl, Mod.none_belowU HI.out.2.2.2.fin⟩
theorem falls_any {W : World} (hT : Tabs W) (hU : UTabs W) {v : Value} {l : List Nat} (hl : Sl W 1 v l.length (l.flatMap u16L)) (hk : ∀ x ∈ l, x ≤ 65535) :
  Calls Tryz.prog 5 #[v] W fun e w' => e = .returned (.bool true) ∧ Below W.heap.size W w' := by
 by_cases h40 : l.length ≤ 40
 ·exact falls_true hT hU hl hk h40
 ·obtain ⟨va, vc, rfl, -⟩ := Sl.val hl
  have HAL := Lib.hid (alive_any W hT hU)
  have t1 : decide ((40 : Int) < (l.length : Int)) = true := decide_eq_true (by omega)
  have t1' : decide (40 < l.length) = true := decide_eq_true (by omega)
  generalize l.length = nl at *
  clear hT hU hl hk h40
  go_enter Tryz.func5, Tryz.ntmps5
  go_wp2_with (first
   | (go_at_call 7; (with_reducible refine HAL.out.mono ?_); rintro e w0 ⟨rfl, hm⟩; have HS0 := Lib.hid ((At.start W).still hm); clear hm)
   | fail)
  go_ret
  exact ⟨rfl, Mod.none_belowU HS0.out.fin⟩
end Go.Proofs.YtahgidkpjmecdaaGreatDoor
