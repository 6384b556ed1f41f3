/- Plain laws of the parameters' bytes: what was put is read again; twice is refused; two have the same bytes just if they are the same. No program in sight. -/
import Derived.Test.YtacgcpofpmkgnaaDoorPaO
namespace Go.Proofs.YtacgcpofpmkgnaaDoor

theorem may_bounds {p : Pm} (h : mayB p = true) : p.i < 4611686018427387904 ∧ p.d < 4611686018427387904 ∧ p.s < 4611686018427387904 ∧ p.n < 4611686018427387904 ∧ (p.h = true ∨ p.t = zeros16) := by
  unfold mayB at h
  simp only [Bool.and_eq_true, Bool.or_eq_true, decide_eq_true_eq] at h
  obtain ⟨⟨⟨⟨h1, h2⟩, h3⟩, h4⟩, h5⟩ := h
  exact ⟨by omega, by omega, by omega, by omega, h5⟩
/-- One parameter is read. -/
theorem int_small (id : Nat) (h : id < 64) (more : List UInt8) : RS.int ⟨UInt8.ofNat id :: more, 0⟩ = (id, ⟨more, 0⟩) := by
  have := int_putL id more (by omega)
  rwa [putL_small id h] at this
theorem bytes_take (v more : List UInt8) : RS.bytes ⟨v ++ more, 0⟩ v.length = (v, ⟨more, 0⟩) := by
  unfold RS.bytes
  simp
/-- A part: its number, its length, its value. -/
theorem read_part {f id : Nat} {p : Pm} {had : List Nat} {v more : List UInt8} (hi : id < 64) (hv : v.length < 64) :
    preadL (f + 1) p had ⟨UInt8.ofNat id :: UInt8.ofNat v.length :: v ++ more, 0⟩ = if (knownB id && had.contains id) = true then (Pm.zero, 11) else match takeL p id v with
      | none => (Pm.zero, 3)
      | some p' => preadL f p' (id :: had) ⟨more, 0⟩ := by
  rw [show (UInt8.ofNat id :: UInt8.ofNat v.length :: v ++ more) = UInt8.ofNat id :: (UInt8.ofNat v.length :: (v ++ more)) from rfl]
  rw [pread_step (id := id) (s1 := ⟨UInt8.ofNat v.length :: (v ++ more), 0⟩) (nn := v.length) (s2 := ⟨v ++ more, 0⟩) (vl := v) (s3 := ⟨more, 0⟩) (by simp) (int_small id hi _) (int_small v.length hv _) (bytes_take v more)]
  rw [if_neg (show ¬ (⟨more, 0⟩ : RS).e ≠ 0 from fun h => h rfl)]
  rfl
theorem read_one {f id n : Nat} {p : Pm} {had : List Nat} {more : List UInt8} (hid : id = 1 ∨ id = 4 ∨ id = 5 ∨ id = 8) (hn : n < 4611686018427387904) (hh : had.contains id = false) (h0 : n ≠ 0) :
    preadL (f + 1) p had ⟨oneL id n ++ more, 0⟩ = preadL f (setP p id n) (id :: had) ⟨more, 0⟩ := by
  rw [one_pos id n h0]
  have hl := putL_len n
  rw [read_part (by omega) (by omega), hh, Bool.and_false, if_neg (by simp)]
  have hi := int_putL n [] hn
  rw [List.append_nil] at hi
  have ht : takeL p id (putL n) = some (setP p id n) := by
    unfold takeL
    rw [if_neg (by omega), if_pos (by rcases hid with rfl | rfl | rfl | rfl <;> rfl), hi, if_pos ⟨rfl, rfl⟩]
  rw [ht]
theorem read_tok {f : Nat} {p : Pm} {had : List Nat} {t more : List UInt8} (ht : t.length = 16) (hh : had.contains 2 = false) :
    preadL (f + 1) p had ⟨2 :: 16 :: t ++ more, 0⟩ = preadL f { p with h := true, t := t } (2 :: had) ⟨more, 0⟩ := by
  have := read_part (f := f) (id := 2) (p := p) (had := had) (v := t) (more := more) (by omega) (by omega)
  rw [ht] at this
  rw [show (2 :: 16 :: t ++ more : List UInt8) = UInt8.ofNat 2 :: UInt8.ofNat 16 :: t ++ more from rfl, this, hh, Bool.and_false, if_neg (by simp)]
  simp [takeL, ht]
/-- The numbers that a step adds. -/
def addId (id n : Nat) (had : List Nat) : List Nat := if n = 0 then had else id :: had
def fuelOf (n f : Nat) : Nat := if n = 0 then f else f + 1
theorem read_opt {f id n : Nat} {p : Pm} {had : List Nat} {more : List UInt8} (hid : id = 1 ∨ id = 4 ∨ id = 5 ∨ id = 8) (hn : n < 4611686018427387904) (hh : had.contains id = false) (hz : setP p id 0 = p) :
    preadL (fuelOf n f) p had ⟨oneL id n ++ more, 0⟩ = preadL f (setP p id n) (addId id n had) ⟨more, 0⟩ := by
  by_cases h0 : n = 0
  · subst h0
    rw [one_zero id 0 rfl, List.nil_append, fuelOf, if_pos rfl, addId, if_pos rfl, hz]
  · rw [fuelOf, if_neg h0, addId, if_neg h0]
    exact read_one hid hn hh h0
theorem read_tokL {f : Nat} {p q : Pm} {had : List Nat} {more : List UInt8} (ht : q.t.length = 16) (hh : had.contains 2 = false) (hz : q.h = true ∨ q.t = zeros16) (hp : p.h = false ∧ p.t = zeros16) :
    preadL (if q.h = true then f + 1 else f) p had ⟨tokL q ++ more, 0⟩ = preadL f { p with h := q.h, t := q.t } (if q.h = true then 2 :: had else had) ⟨more, 0⟩ := by
  cases hq : q.h
  · rw [tok_no q hq]
    have e : q.t = zeros16 := by
      rcases hz with h | h
      · rw [hq] at h; cases h
      · exact h
    obtain ⟨i, d, s, n, h, t⟩ := p
    obtain ⟨rfl, rfl⟩ := hp
    rw [e]
    simp
  · rw [tok_yes q hq]
    simp only [if_true]
    exact read_tok ht hh
/-- More fuel turns nothing. -/
theorem pread_mono (f : Nat) : ∀ (g : Nat) (p : Pm) (had : List Nat) (s : RS), s.l.length < f → f ≤ g → preadL g p had s = preadL f p had s := by
  induction f with
  | zero => intro g p had s h _; omega
  | succ f ih =>
    intro g p had s h hg
    obtain ⟨k, rfl⟩ : ∃ k, g = k + 1 := ⟨g - 1, by omega⟩
    by_cases h0 : s.l = []
    · rw [pread_end h0, pread_end h0]
    · obtain ⟨id, s1, h1⟩ : ∃ id s1, s.int = (id, s1) := ⟨_, _, rfl⟩
      obtain ⟨nn, s2, h2⟩ : ∃ nn s2, s1.int = (nn, s2) := ⟨_, _, rfl⟩
      obtain ⟨vl, s3, h3⟩ : ∃ vl s3, s2.bytes nn = (vl, s3) := ⟨_, _, rfl⟩
      rw [pread_step h0 h1 h2 h3, pread_step h0 h1 h2 h3]
      by_cases he : s3.e ≠ 0
      · rw [if_pos he, if_pos he]
      · rw [if_neg he, if_neg he]
        by_cases hk : (knownB id && had.contains id) = true
        · rw [if_pos hk, if_pos hk]
        · rw [if_neg hk, if_neg hk]
          cases ht : takeL p id vl with
          | none => rfl
          | some p' =>
            refine ih k _ _ _ ?_ (by omega)
            have l1 := int_less s h0 (by
              rw [h1]
              apply Classical.byContradiction
              intro hne
              have a2 := int_bad s1 hne
              rw [h2] at a2
              have a3 := bytes_bad s2 nn a2
              rw [h3] at a3
              exact he a3)
            have l2 := int_len s1
            have l3 := (bytes_len s2 nn).1
            rw [h1] at l1
            rw [h2] at l2
            rw [h3] at l3
            simp only at l1 l2 l3
            omega
/-- The numbers of what was put. -/
def hadOf (q : Pm) : List Nat := addId 8 q.n (addId 5 q.s (addId 4 q.d (if q.h = true then 2 :: addId 1 q.i [] else addId 1 q.i [])))
/-- What was put, with more behind it, is read: then goes on with what is behind. -/
theorem read_put {q : Pm} (hm : mayB q = true) (ht : q.t.length = 16) (more : List UInt8) (g : Nat) :
    ∃ k, preadL (g + k) Pm.zero [] ⟨pputL q ++ more, 0⟩ = preadL g q (hadOf q) ⟨more, 0⟩ ∧ k ≤ 5 := by
  obtain ⟨b1, b2, b3, b4, b5⟩ := may_bounds hm
  rw [put_yes hm]
  have hh1 : (addId 1 q.i []).contains 2 = false := by unfold addId; split <;> decide
  obtain ⟨A, hA⟩ : ∃ A, A = (if q.h = true then 2 :: addId 1 q.i [] else addId 1 q.i []) := ⟨_, rfl⟩
  have hA4 : A.contains 4 = false := by rw [hA]; unfold addId; split <;> split <;> decide
  have hA5 : (addId 4 q.d A).contains 5 = false := by rw [hA]; unfold addId; split <;> split <;> split <;> decide
  have hA8 : (addId 5 q.s (addId 4 q.d A)).contains 8 = false := by rw [hA]; unfold addId; split <;> split <;> split <;> split <;> decide
  refine ⟨(if q.i = 0 then 0 else 1) + (if q.h = true then 1 else 0) + (if q.d = 0 then 0 else 1) + (if q.s = 0 then 0 else 1) + (if q.n = 0 then 0 else 1), ?_, ?_⟩
  · have e : g + ((if q.i = 0 then 0 else 1) + (if q.h = true then 1 else 0) + (if q.d = 0 then 0 else 1) + (if q.s = 0 then 0 else 1) + (if q.n = 0 then 0 else 1)) = fuelOf q.i (if q.h = true then fuelOf q.d (fuelOf q.s (fuelOf q.n g)) + 1 else fuelOf q.d (fuelOf q.s (fuelOf q.n g))) := by
      unfold fuelOf
      split <;> split <;> split <;> split <;> split <;> omega
    rw [e]
    simp only [putUp, List.append_assoc]
    rw [read_opt (.inl rfl) b1 (by decide) rfl]
    rw [read_tokL ht hh1 b5 ⟨rfl, rfl⟩, ← hA]
    rw [read_opt (.inr (.inl rfl)) b2 hA4 rfl, read_opt (.inr (.inr (.inl rfl))) b3 hA5 rfl, read_opt (.inr (.inr (.inr rfl))) b4 hA8 rfl]
    rw [hA]
    rfl
  · split <;> split <;> split <;> split <;> split <;> omega
theorem preadF_more {l : List UInt8} {g : Nat} (h : l.length < g) : preadL g Pm.zero [] ⟨l, 0⟩ = preadF l := pread_mono (l.length + 1) g Pm.zero [] ⟨l, 0⟩ (Nat.lt_succ_self _) h
theorem read_back {q : Pm} (hm : mayB q = true) (ht : q.t.length = 16) : preadF (pputL q) = (q, 0) := by
  obtain ⟨k, h, _⟩ := read_put hm ht [] ((pputL q).length + 1)
  rw [List.append_nil, preadF_more (by omega)] at h
  rw [h, pread_end rfl, finP, if_pos hm]
/-- With an unknown one behind. -/
theorem read_back33 {q : Pm} (hm : mayB q = true) (ht : q.t.length = 16) (more : List UInt8) (hl : more.length < 64) : preadF (pputL q ++ [33, UInt8.ofNat more.length] ++ more) = (q, 0) := by
  obtain ⟨k, h, _⟩ := read_put hm ht ([33, UInt8.ofNat more.length] ++ more) ((pputL q ++ [33, UInt8.ofNat more.length] ++ more).length + 1)
  rw [← List.append_assoc, preadF_more (by omega)] at h
  rw [h]
  have := read_part (f := (pputL q ++ [33, UInt8.ofNat more.length] ++ more).length) (id := 33) (p := q) (had := hadOf q) (v := more) (more := []) (by omega) hl
  rw [List.append_nil] at this
  show preadL _ _ _ ⟨UInt8.ofNat 33 :: UInt8.ofNat more.length :: more, 0⟩ = _
  rw [this]
  rw [if_neg (by simp [knownB])]
  have e : takeL q 33 more = some q := by simp [takeL, knownB]
  rw [e]
  simp only
  rw [pread_end rfl, finP, if_pos hm]
/-- Same bytes, same parameters. -/
theorem put_inj {p q : Pm} (hp : mayB p = true) (hq : mayB q = true) (tp : p.t.length = 16) (tq : q.t.length = 16) (h : pputL p = pputL q) : p = q := by
  have a := read_back hp tp
  rw [h, read_back hq tq] at a
  exact ((Prod.mk.inj a).1).symm
theorem pread_first {f id : Nat} {p : Pm} {had : List Nat} {v rest l : List UInt8} (hl : l = UInt8.ofNat id :: UInt8.ofNat v.length :: v ++ rest) (hi : id < 64) (hv : v.length < 64) (hk : knownB id = true) (hh : had.contains id = true) : preadL (f + 1) p had ⟨l, 0⟩ = (Pm.zero, 11) := by
  subst hl
  rw [read_part hi hv, hk, hh]; rfl
/-- Twice is refused. -/
theorem read_twice {q : Pm} (hm : mayB q = true) (ht : q.t.length = 16) (h0 : pputL q ≠ []) : preadF (pputL q ++ pputL q) = (Pm.zero, 11) := by
  obtain ⟨k, h, _⟩ := read_put hm ht (pputL q) ((pputL q ++ pputL q).length + 1)
  rw [preadF_more (by omega)] at h
  rw [h]
  have h8 : ∀ n, (putL n).length < 64 := fun n => by have := putL_len n; omega
  rw [put_yes hm] at h0 ⊢
  simp only [putUp, List.append_assoc] at h0 ⊢
  by_cases h1 : q.i = 0
  · rw [one_zero 1 q.i h1, List.nil_append] at h0 ⊢
    cases hh : q.h
    · rw [tok_no q hh, List.nil_append] at h0 ⊢
      by_cases h4 : q.d = 0
      · rw [one_zero 4 q.d h4, List.nil_append] at h0 ⊢
        by_cases h5 : q.s = 0
        · rw [one_zero 5 q.s h5, List.nil_append] at h0 ⊢
          by_cases h8' : q.n = 0
          · rw [one_zero 8 q.n h8'] at h0; exact absurd rfl h0
          · rw [one_pos 8 q.n h8']
            exact pread_first (id := 8) (v := putL q.n) (rest := []) (by simp) (by omega) (h8 _) (by decide) (by simp [hadOf, addId, h8'])
        · rw [one_pos 5 q.s h5]
          exact pread_first (id := 5) (v := putL q.s) (rest := oneL 8 q.n) rfl (by omega) (h8 _) (by decide) (by unfold hadOf addId; rw [if_neg h5]; split <;> simp)
      · rw [one_pos 4 q.d h4]
        exact pread_first (id := 4) (v := putL q.d) (rest := oneL 5 q.s ++ oneL 8 q.n) rfl (by omega) (h8 _) (by decide) (by unfold hadOf addId; rw [if_neg h4]; split <;> split <;> simp)
    · rw [tok_yes q hh]
      exact pread_first (id := 2) (v := q.t) (rest := oneL 4 q.d ++ (oneL 5 q.s ++ oneL 8 q.n)) (by rw [ht]; rfl) (by omega) (by omega) (by decide) (by unfold hadOf addId; rw [if_pos hh]; split <;> split <;> split <;> simp)
  · rw [one_pos 1 q.i h1]
    exact pread_first (id := 1) (v := putL q.i) (rest := tokL q ++ (oneL 4 q.d ++ (oneL 5 q.s ++ oneL 8 q.n))) rfl (by omega) (h8 _) (by decide) (by unfold hadOf addId; rw [if_neg h1]; split <;> split <;> split <;> split <;> simp)
theorem read_nil : preadF [] = (Pm.zero, 0) := by rfl
/-- Idle ticks. -/
theorem idle_comm (a b : Nat) : idleN a b = idleN b a := by unfold idleN; split <;> split <;> omega
end Go.Proofs.YtacgcpofpmkgnaaDoor
