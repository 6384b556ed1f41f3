/- Plain laws: a frame that is put is read again, with what stands behind it left. No program in sight. (printed by gengca.py) -/
import Derived.Test.YteegonadodmeeaaDoorGaQ
namespace Go.Proofs.YteegonadodmeeaaDoor

theorem putL_small (n : Nat) (h : n < 64) : putL n = [UInt8.ofNat n] := by
  have h1 : szN n = 1 := by rcases szN_cases n with h' | h' | h' | h' | h' <;> omega
  rw [putL_eq n (by omega), h1]
  simp [wd, be, tg]
theorem bytes_put (b more : List UInt8) : RS.bytes ⟨b ++ more, 0⟩ b.length = (b, ⟨more, 0⟩) := by
  unfold RS.bytes
  rw [if_neg (by simp), if_neg (by simp)]
  simp
theorem bytes_putN (b more : List UInt8) (n : Nat) (h : b.length = n) : RS.bytes ⟨b ++ more, 0⟩ n = (b, ⟨more, 0⟩) := by subst h; exact bytes_put b more
theorem byte_put (c : UInt8) (more : List UInt8) : RS.byte ⟨c :: more, 0⟩ = (c, ⟨more, 0⟩) := by
  unfold RS.byte
  rw [show c :: more = [c] ++ more from rfl, bytes_putN [c] more 1 rfl]
  rfl
theorem int_put (n : Nat) (more : List UInt8) (h : n ≤ topN) : RS.int ⟨putL n ++ more, 0⟩ = (n, ⟨more, 0⟩) := int_putL n more (by unfold topN at h; omega)
theorem tag_put (n : Nat) (more : List UInt8) (h : n < 64) : RS.int ⟨UInt8.ofNat n :: more, 0⟩ = (n, ⟨more, 0⟩) := by
  have e : UInt8.ofNat n :: more = putL n ++ more := by rw [putL_small n h]; rfl
  rw [e]
  exact int_put n more (by unfold topN; omega)
theorem next_of {f : Fr} {fl : Bool} {k : Nat} {more : List UInt8} (h : rightF f = true) (hk : f.k = (k : Int)) (ht : tagN f < 64) (h3 : tagN f ≠ 3) (hkn : knownL (tagN f) = ((k : Int), fl))
    (hr : readN (tagN f) k (Fr.ofKind (k : Int) fl) ⟨bodyN k f ++ more, 0⟩ = (f, ⟨more, 0⟩)) : nextF ⟨fputL f ++ more, 0⟩ = (f, ⟨more, 0⟩) := by
  obtain ⟨m, hm, _⟩ := right_parts h
  rw [hk] at hm
  have e : fputL f ++ more = UInt8.ofNat (tagN f) :: (bodyN k f ++ more) := by
    unfold fputL
    rw [if_pos h, hk]
    rfl
  rw [e]
  unfold nextF
  rw [tag_put _ _ ht]
  simp only [hkn]
  rw [if_neg (by simp), hm]
  simp only [Option.isNone_some, Bool.false_eq_true, if_false]
  rw [show ((k : Int)).toNat = k from rfl, hr]
  unfold nextK three
  rw [if_neg h3, if_pos ⟨rfl, h⟩]
/-- Bytes 0 ahead, of those that are put. -/
theorem zeroN_rep : ∀ (a n : Nat) (more : List UInt8), a ≤ n → (a = n ∨ more.head? ≠ some 0) → zeroN n (List.replicate a 0 ++ more) = a
  | 0, 0, _, _, _ => rfl
  | 0, n + 1, more, _, h => by
    rcases h with h | h
    · omega
    · cases more with
      | nil => rfl
      | cons c l =>
        show (if c = 0 then _ else _) = _
        rw [if_neg (by intro e; subst e; simp at h)]
  | a + 1, 0, _, h, _ => by omega
  | a + 1, n + 1, more, h1, h2 => by
    show (if (0 : UInt8) = 0 then zeroN n (List.replicate a 0 ++ more) + 1 else 0) = _
    rw [if_pos rfl, zeroN_rep a n more (by omega) (by rcases h2 with h | h; exact .inl (by omega); exact .inr h)]
theorem top_parts {f : Fr} (h : topB f = true) : f.id ≤ topN ∧ f.a ≤ topN ∧ f.b ≤ topN ∧ f.c ≤ topN := by
  simp only [topB, Bool.and_eq_true, decide_eq_true_eq] at h
  exact ⟨h.1.1.1, h.1.1.2, h.1.2, h.2⟩
theorem gaps_put : ∀ (l : List (Nat × Nat)) (lo : Nat) (out : List (Nat × Nat)) (more : List UInt8), lo ≤ topN → rngB (some lo) l = true →
    readGaps l.length out lo ⟨gapsL lo l ++ more, 0⟩ = (out ++ l, ⟨more, 0⟩)
  | [], lo, out, more, _, _ => by simp [readGaps, gapsL]
  | x :: l, lo, out, more, hlo, h => by
    simp only [rngB, Bool.and_eq_true, decide_eq_true_eq] at h
    obtain ⟨⟨⟨⟨h1, h2⟩, h3⟩, h4⟩, h5⟩ := h
    have e : gapsL lo (x :: l) ++ more = putL (lo - x.2 - 2) ++ (putL (x.2 - x.1) ++ (gapsL x.1 l ++ more)) := by simp [gapsL]
    have i1 := int_put (lo - x.2 - 2) (putL (x.2 - x.1) ++ (gapsL x.1 l ++ more)) (by omega)
    have i2 := int_put (x.2 - x.1) (gapsL x.1 l ++ more) (by omega)
    show (if _ then _ else _) = _
    rw [e, i1]
    simp only
    rw [i2]
    simp only
    rw [if_neg (by simp; omega), show lo - 2 - (lo - x.2 - 2) = x.2 by omega, show x.2 - (x.2 - x.1) = x.1 by omega, gaps_put l x.1 (out ++ [(x.1, x.2)]) more (by omega) h5]
    simp
theorem topN_len {n : Nat} (h : n ≤ 100000) : n ≤ topN := by unfold topN; omega
theorem rd_4 (n : Nat) (id a c : Nat) (more : List UInt8) (hid : id ≤ topN) (ha : a ≤ topN) (hc : c ≤ topN) : readN n 4 (Fr.ofKind ((4 : Nat) : Int) false) ⟨bodyN 4 (⟨4, id, a, 0, c, false, [], [], zeros16⟩ : Fr) ++ more, 0⟩ = ((⟨4, id, a, 0, c, false, [], [], zeros16⟩ : Fr), ⟨more, 0⟩) := by
  have e : bodyN 4 (⟨4, id, a, 0, c, false, [], [], zeros16⟩ : Fr) ++ more = putL id ++ (putL c ++ (putL a ++ (more))) := by simp [bodyN]
  rw [e]
  simp only [readN, int_put id _ hid, int_put c _ hc, int_put a _ ha]
  rfl
theorem rd_5 (n : Nat) (id c : Nat) (more : List UInt8) (hid : id ≤ topN) (hc : c ≤ topN) : readN n 5 (Fr.ofKind ((5 : Nat) : Int) false) ⟨bodyN 5 (⟨5, id, 0, 0, c, false, [], [], zeros16⟩ : Fr) ++ more, 0⟩ = ((⟨5, id, 0, 0, c, false, [], [], zeros16⟩ : Fr), ⟨more, 0⟩) := by
  have e : bodyN 5 (⟨5, id, 0, 0, c, false, [], [], zeros16⟩ : Fr) ++ more = putL id ++ (putL c ++ (more)) := by simp [bodyN]
  rw [e]
  simp only [readN, int_put id _ hid, int_put c _ hc]
  rfl
theorem rd_16 (n : Nat) (a : Nat) (more : List UInt8) (ha : a ≤ topN) : readN n 16 (Fr.ofKind ((16 : Nat) : Int) false) ⟨bodyN 16 (⟨16, 0, a, 0, 0, false, [], [], zeros16⟩ : Fr) ++ more, 0⟩ = ((⟨16, 0, a, 0, 0, false, [], [], zeros16⟩ : Fr), ⟨more, 0⟩) := by
  have e : bodyN 16 (⟨16, 0, a, 0, 0, false, [], [], zeros16⟩ : Fr) ++ more = putL a ++ (more) := by simp [bodyN]
  rw [e]
  simp only [readN, int_put a _ ha]
  rfl
theorem rd_17 (n : Nat) (id a : Nat) (more : List UInt8) (hid : id ≤ topN) (ha : a ≤ topN) : readN n 17 (Fr.ofKind ((17 : Nat) : Int) false) ⟨bodyN 17 (⟨17, id, a, 0, 0, false, [], [], zeros16⟩ : Fr) ++ more, 0⟩ = ((⟨17, id, a, 0, 0, false, [], [], zeros16⟩ : Fr), ⟨more, 0⟩) := by
  have e : bodyN 17 (⟨17, id, a, 0, 0, false, [], [], zeros16⟩ : Fr) ++ more = putL id ++ (putL a ++ (more)) := by simp [bodyN]
  rw [e]
  simp only [readN, int_put id _ hid, int_put a _ ha]
  rfl
theorem rd_18 (n : Nat) (a : Nat) (fl : Bool) (more : List UInt8) (ha : a ≤ topN) : readN n 18 (Fr.ofKind ((18 : Nat) : Int) fl) ⟨bodyN 18 (⟨18, 0, a, 0, 0, fl, [], [], zeros16⟩ : Fr) ++ more, 0⟩ = ((⟨18, 0, a, 0, 0, fl, [], [], zeros16⟩ : Fr), ⟨more, 0⟩) := by
  have e : bodyN 18 (⟨18, 0, a, 0, 0, fl, [], [], zeros16⟩ : Fr) ++ more = putL a ++ (more) := by simp [bodyN]
  rw [e]
  simp only [readN, int_put a _ ha]
  rfl
theorem rd_20 (n : Nat) (a : Nat) (more : List UInt8) (ha : a ≤ topN) : readN n 20 (Fr.ofKind ((20 : Nat) : Int) false) ⟨bodyN 20 (⟨20, 0, a, 0, 0, false, [], [], zeros16⟩ : Fr) ++ more, 0⟩ = ((⟨20, 0, a, 0, 0, false, [], [], zeros16⟩ : Fr), ⟨more, 0⟩) := by
  have e : bodyN 20 (⟨20, 0, a, 0, 0, false, [], [], zeros16⟩ : Fr) ++ more = putL a ++ (more) := by simp [bodyN]
  rw [e]
  simp only [readN, int_put a _ ha]
  rfl
theorem rd_21 (n : Nat) (id a : Nat) (more : List UInt8) (hid : id ≤ topN) (ha : a ≤ topN) : readN n 21 (Fr.ofKind ((21 : Nat) : Int) false) ⟨bodyN 21 (⟨21, id, a, 0, 0, false, [], [], zeros16⟩ : Fr) ++ more, 0⟩ = ((⟨21, id, a, 0, 0, false, [], [], zeros16⟩ : Fr), ⟨more, 0⟩) := by
  have e : bodyN 21 (⟨21, id, a, 0, 0, false, [], [], zeros16⟩ : Fr) ++ more = putL id ++ (putL a ++ (more)) := by simp [bodyN]
  rw [e]
  simp only [readN, int_put id _ hid, int_put a _ ha]
  rfl
theorem rd_22 (n : Nat) (a : Nat) (fl : Bool) (more : List UInt8) (ha : a ≤ topN) : readN n 22 (Fr.ofKind ((22 : Nat) : Int) fl) ⟨bodyN 22 (⟨22, 0, a, 0, 0, fl, [], [], zeros16⟩ : Fr) ++ more, 0⟩ = ((⟨22, 0, a, 0, 0, fl, [], [], zeros16⟩ : Fr), ⟨more, 0⟩) := by
  have e : bodyN 22 (⟨22, 0, a, 0, 0, fl, [], [], zeros16⟩ : Fr) ++ more = putL a ++ (more) := by simp [bodyN]
  rw [e]
  simp only [readN, int_put a _ ha]
  rfl
theorem rd_25 (n : Nat) (id : Nat) (more : List UInt8) (hid : id ≤ topN) : readN n 25 (Fr.ofKind ((25 : Nat) : Int) false) ⟨bodyN 25 (⟨25, id, 0, 0, 0, false, [], [], zeros16⟩ : Fr) ++ more, 0⟩ = ((⟨25, id, 0, 0, 0, false, [], [], zeros16⟩ : Fr), ⟨more, 0⟩) := by
  have e : bodyN 25 (⟨25, id, 0, 0, 0, false, [], [], zeros16⟩ : Fr) ++ more = putL id ++ (more) := by simp [bodyN]
  rw [e]
  simp only [readN, int_put id _ hid]
  rfl
theorem rd_6 (n : Nat) (a : Nat) (d : List UInt8) (more : List UInt8) (ha : a ≤ topN) (hd : d.length ≤ topN) : readN n 6 (Fr.ofKind ((6 : Nat) : Int) false) ⟨bodyN 6 (⟨6, 0, a, 0, 0, false, d, [], zeros16⟩ : Fr) ++ more, 0⟩ = ((⟨6, 0, a, 0, 0, false, d, [], zeros16⟩ : Fr), ⟨more, 0⟩) := by
  have e : bodyN 6 (⟨6, 0, a, 0, 0, false, d, [], zeros16⟩ : Fr) ++ more = putL a ++ (putL d.length ++ (d ++ more)) := by simp [bodyN, dataL]
  rw [e]
  simp only [readN, int_put a _ ha, int_put d.length _ hd, bytes_put d]
  rfl
theorem rd_7 (n : Nat) (d : List UInt8) (more : List UInt8) (hd : d.length ≤ topN) : readN n 7 (Fr.ofKind ((7 : Nat) : Int) false) ⟨bodyN 7 (⟨7, 0, 0, 0, 0, false, d, [], zeros16⟩ : Fr) ++ more, 0⟩ = ((⟨7, 0, 0, 0, 0, false, d, [], zeros16⟩ : Fr), ⟨more, 0⟩) := by
  have e : bodyN 7 (⟨7, 0, 0, 0, 0, false, d, [], zeros16⟩ : Fr) ++ more = putL d.length ++ (d ++ more) := by simp [bodyN, dataL]
  rw [e]
  simp only [readN, int_put d.length _ hd, bytes_put d]
  rfl
theorem rd_26 (n : Nat) (d : List UInt8) (more : List UInt8) (hd : d.length = 8) : readN n 26 (Fr.ofKind ((26 : Nat) : Int) false) ⟨bodyN 26 (⟨26, 0, 0, 0, 0, false, d, [], zeros16⟩ : Fr) ++ more, 0⟩ = ((⟨26, 0, 0, 0, 0, false, d, [], zeros16⟩ : Fr), ⟨more, 0⟩) := by
  have e : bodyN 26 (⟨26, 0, 0, 0, 0, false, d, [], zeros16⟩ : Fr) ++ more = d ++ more := by simp [bodyN]
  rw [e]
  simp only [readN, bytes_putN d _ 8 hd]
  rfl
theorem rd_27 (n : Nat) (d : List UInt8) (more : List UInt8) (hd : d.length = 8) : readN n 27 (Fr.ofKind ((27 : Nat) : Int) false) ⟨bodyN 27 (⟨27, 0, 0, 0, 0, false, d, [], zeros16⟩ : Fr) ++ more, 0⟩ = ((⟨27, 0, 0, 0, 0, false, d, [], zeros16⟩ : Fr), ⟨more, 0⟩) := by
  have e : bodyN 27 (⟨27, 0, 0, 0, 0, false, d, [], zeros16⟩ : Fr) ++ more = d ++ more := by simp [bodyN]
  rw [e]
  simp only [readN, bytes_putN d _ 8 hd]
  rfl
theorem rd_1 (n : Nat) (more : List UInt8) : readN n 1 (Fr.ofKind ((1 : Nat) : Int) false) ⟨bodyN 1 (⟨1, 0, 0, 0, 0, false, [], [], zeros16⟩ : Fr) ++ more, 0⟩ = ((⟨1, 0, 0, 0, 0, false, [], [], zeros16⟩ : Fr), ⟨more, 0⟩) := by
  have e : bodyN 1 (⟨1, 0, 0, 0, 0, false, [], [], zeros16⟩ : Fr) ++ more = more := by simp [bodyN]
  rw [e]
  rfl
theorem rd_30 (n : Nat) (more : List UInt8) : readN n 30 (Fr.ofKind ((30 : Nat) : Int) false) ⟨bodyN 30 (⟨30, 0, 0, 0, 0, false, [], [], zeros16⟩ : Fr) ++ more, 0⟩ = ((⟨30, 0, 0, 0, 0, false, [], [], zeros16⟩ : Fr), ⟨more, 0⟩) := by
  have e : bodyN 30 (⟨30, 0, 0, 0, 0, false, [], [], zeros16⟩ : Fr) ++ more = more := by simp [bodyN]
  rw [e]
  rfl
theorem rd_0 (n a : Nat) (more : List UInt8) (h1 : 1 ≤ a) (h2 : a ≤ 1200) (h3 : a = 1200 ∨ more.head? ≠ some 0) : readN n 0 (Fr.ofKind ((0 : Nat) : Int) false) ⟨bodyN 0 (⟨0, 0, a, 0, 0, false, [], [], zeros16⟩ : Fr) ++ more, 0⟩ = ((⟨0, 0, a, 0, 0, false, [], [], zeros16⟩ : Fr), ⟨more, 0⟩) := by
  have z := zeroN_rep (a - 1) 1199 more (by omega) (by rcases h3 with h | h; exact .inl (by omega); exact .inr h)
  show (_, _) = _
  simp only [bodyN]
  rw [z, show a - 1 + 1 = a by omega, List.drop_append_of_le_length (by simp), List.drop_of_length_le (by simp)]
  rfl
theorem rd_2 (n b : Nat) (rs : List (Nat × Nat)) (more : List UInt8) (hb : b ≤ topN) (hr : rangesB rs = true) : readN n 2 (Fr.ofKind ((2 : Nat) : Int) false) ⟨bodyN 2 (⟨2, 0, 0, b, 0, false, [], rs, zeros16⟩ : Fr) ++ more, 0⟩ = ((⟨2, 0, 0, b, 0, false, [], rs, zeros16⟩ : Fr), ⟨more, 0⟩) := by
  simp only [rangesB, Bool.and_eq_true, decide_eq_true_eq] at hr
  obtain ⟨⟨h1, h2⟩, h3⟩ := hr
  cases rs with
  | nil => simp at h2
  | cons x l =>
    simp only [rngB, Bool.and_eq_true, decide_eq_true_eq] at h1
    obtain ⟨⟨g1, g2⟩, g3⟩ := h1
    have hl : l.length ≤ 15 := by simpa using h3
    have e : bodyN 2 (⟨2, 0, 0, b, 0, false, [], x :: l, zeros16⟩ : Fr) ++ more = putL x.2 ++ (putL b ++ (putL l.length ++ (putL (x.2 - x.1) ++ (gapsL x.1 l ++ more)))) := by simp [bodyN, ackL]
    rw [e]
    show readAckL _ _ = _
    have g := gaps_put l x.1 [(x.1, x.2)] more (by omega) g3
    unfold readAckL
    simp only [int_put x.2 _ g2, int_put b _ hb, int_put l.length _ (topN_len (by omega)), int_put (x.2 - x.1) _ (show x.2 - x.1 ≤ topN by omega)]
    rw [if_neg (by simp; omega), show x.2 - (x.2 - x.1) = x.1 by omega, g]
    rfl
theorem rd_8 (id a : Nat) (fl : Bool) (d : List UInt8) (more : List UInt8) (hid : id ≤ topN) (ha : a ≤ topN) (hd : d.length ≤ topN) :
    readN (tagN (⟨8, id, a, 0, 0, fl, d, [], zeros16⟩ : Fr)) 8 (Fr.ofKind ((8 : Nat) : Int) false) ⟨bodyN 8 (⟨8, id, a, 0, 0, fl, d, [], zeros16⟩ : Fr) ++ more, 0⟩ = ((⟨8, id, a, 0, 0, fl, d, [], zeros16⟩ : Fr), ⟨more, 0⟩) := by
  have hdt : decide (tagN (⟨8, id, a, 0, 0, fl, d, [], zeros16⟩ : Fr) % 2 = 1) = fl := by
    by_cases h0 : a = 0 <;> cases fl <;> simp [tagN, h0]
  have h2 : tagN (⟨8, id, a, 0, 0, fl, d, [], zeros16⟩ : Fr) / 2 % 2 = 1 := by
    by_cases h0 : a = 0 <;> cases fl <;> simp [tagN, h0]
  have h4 : tagN (⟨8, id, a, 0, 0, fl, d, [], zeros16⟩ : Fr) / 4 % 2 = if a = 0 then 0 else 1 := by
    by_cases h0 : a = 0 <;> cases fl <;> simp [tagN, h0]
  show readStreamL _ _ _ = _
  unfold readStreamL
  rw [hdt, h2, h4]
  by_cases h0 : a = 0
  · subst h0
    have e : bodyN 8 (⟨8, id, 0, 0, 0, fl, d, [], zeros16⟩ : Fr) ++ more = putL id ++ (putL d.length ++ (d ++ more)) := by simp [bodyN, dataL]
    rw [e]
    simp only [int_put id _ hid, if_true, int_put d.length _ hd, bytes_put d, show ¬ ((0 : Nat) = 1) by decide, if_false]
    rfl
  · have e : bodyN 8 (⟨8, id, a, 0, 0, fl, d, [], zeros16⟩ : Fr) ++ more = putL id ++ (putL a ++ (putL d.length ++ (d ++ more))) := by simp [bodyN, dataL, h0]
    rw [e]
    simp only [int_put id _ hid, int_put a _ ha, if_neg h0, if_true, int_put d.length _ hd, bytes_put d]
    rfl
theorem rd_24 (n id a : Nat) (d t : List UInt8) (more : List UInt8) (hid : id ≤ topN) (ha : a ≤ topN) (hd : d.length ≤ 20) (ht : t.length = 16) :
    readN n 24 (Fr.ofKind ((24 : Nat) : Int) false) ⟨bodyN 24 (⟨24, id, a, 0, 0, false, d, [], t⟩ : Fr) ++ more, 0⟩ = ((⟨24, id, a, 0, 0, false, d, [], t⟩ : Fr), ⟨more, 0⟩) := by
  have e : bodyN 24 (⟨24, id, a, 0, 0, false, d, [], t⟩ : Fr) ++ more = putL id ++ (putL a ++ (UInt8.ofNat d.length :: (d ++ (t ++ more)))) := by simp [bodyN]
  have en : (UInt8.ofNat d.length).toNat = d.length := UInt8.toNat_ofNat_of_lt' (by show _ < 256; omega)
  rw [e]
  simp only [readN, int_put id _ hid, int_put a _ ha, byte_put, en, bytes_put d, bytes_putN t _ 16 ht, tokL, ht, if_true]
  rfl
theorem rd_28 (n a c : Nat) (fl : Bool) (d : List UInt8) (more : List UInt8) (ha : a ≤ topN) (hc : c ≤ topN) (hd : d.length ≤ topN) (h0 : fl = true → a = 0) :
    readN n 28 (Fr.ofKind ((28 : Nat) : Int) fl) ⟨bodyN 28 (⟨28, 0, a, 0, c, fl, d, [], zeros16⟩ : Fr) ++ more, 0⟩ = ((⟨28, 0, a, 0, c, fl, d, [], zeros16⟩ : Fr), ⟨more, 0⟩) := by
  cases fl with
  | false =>
    have e : bodyN 28 (⟨28, 0, a, 0, c, false, d, [], zeros16⟩ : Fr) ++ more = putL c ++ (putL a ++ (putL d.length ++ (d ++ more))) := by simp [bodyN, dataL]
    rw [e]
    simp only [readN, Fr.ofKind, int_put c _ hc, int_put a _ ha, Bool.false_eq_true, if_false, int_put d.length _ hd, bytes_put d]
    rfl
  | true =>
    obtain rfl := h0 rfl
    have e : bodyN 28 (⟨28, 0, 0, 0, c, true, d, [], zeros16⟩ : Fr) ++ more = putL c ++ (putL d.length ++ (d ++ more)) := by simp [bodyN, dataL]
    rw [e]
    simp only [readN, Fr.ofKind, int_put c _ hc, if_true, int_put d.length _ hd, bytes_put d]
    rfl
/-- WHAT IS PUT IS READ AGAIN. -/
theorem put_read {f : Fr} (h : rightF f = true) (ht : f.t.length = 16) (more : List UInt8) (hz : f.k = 0 → f.a = 1200 ∨ more.head? ≠ some 0) : ∃ (k : Nat) (fl : Bool), f.k = (k : Int) ∧ tagN f < 64 ∧ tagN f ≠ 3 ∧ knownL (tagN f) = ((k : Int), fl) ∧ (k = 8 → tagN f / 2 % 2 = 1) ∧ readN (tagN f) k (Fr.ofKind (k : Int) fl) ⟨bodyN k f ++ more, 0⟩ = (f, ⟨more, 0⟩) := by
  obtain ⟨m, hm, htop, he, ho⟩ := right_parts h
  obtain ⟨t1, t2, t3, t4⟩ := top_parts htop
  obtain ⟨l1, l2⟩ := right_len h
  have ld := topN_len (n := f.d.length) (by omega)
  have hm2 := hm
  obtain ⟨k, id, a, b, c, fl, d, rs, t⟩ := f
  simp only at *
  rcases kind_cases hm with hk | hk | hk | hk | hk | hk | hk | hk | hk | hk | hk | hk | hk | hk | hk | hk | hk | hk | hk | hk
  · subst hk
    obtain rfl := Option.some.inj hm2
    obtain rfl : id = 0 := congrArg Fr.id he
    obtain rfl : b = 0 := congrArg Fr.b he
    obtain rfl : c = 0 := congrArg Fr.c he
    obtain rfl : fl = false := congrArg Fr.fl he
    obtain rfl : d = [] := congrArg Fr.d he
    obtain rfl : rs = [] := congrArg Fr.rs he
    obtain rfl : t = zeros16 := congrArg Fr.t he
    have hok : okN 0 _ = true := ho
    simp only [okN, Bool.and_eq_true, decide_eq_true_eq] at hok
    exact ⟨0, false, rfl, (by simp [tagN]), (by simp [tagN]), (by simp [tagN, knownL]), (fun e => by omega), rd_0 _ a more hok.1 hok.2 (hz rfl)⟩
  · subst hk
    obtain rfl := Option.some.inj hm2
    obtain rfl : id = 0 := congrArg Fr.id he
    obtain rfl : a = 0 := congrArg Fr.a he
    obtain rfl : b = 0 := congrArg Fr.b he
    obtain rfl : c = 0 := congrArg Fr.c he
    obtain rfl : fl = false := congrArg Fr.fl he
    obtain rfl : d = [] := congrArg Fr.d he
    obtain rfl : rs = [] := congrArg Fr.rs he
    obtain rfl : t = zeros16 := congrArg Fr.t he
    exact ⟨1, false, rfl, (by simp [tagN]), (by simp [tagN]), (by simp [tagN, knownL]), (fun e => by omega), rd_1 _ more⟩
  · subst hk
    obtain rfl := Option.some.inj hm2
    obtain rfl : id = 0 := congrArg Fr.id he
    obtain rfl : a = 0 := congrArg Fr.a he
    obtain rfl : c = 0 := congrArg Fr.c he
    obtain rfl : fl = false := congrArg Fr.fl he
    obtain rfl : d = [] := congrArg Fr.d he
    obtain rfl : t = zeros16 := congrArg Fr.t he
    exact ⟨2, false, rfl, (by simp [tagN]), (by simp [tagN]), (by simp [tagN, knownL]), (fun e => by omega), rd_2 _ b rs more t3 ho⟩
  · subst hk
    obtain rfl := Option.some.inj hm2
    obtain rfl : b = 0 := congrArg Fr.b he
    obtain rfl : fl = false := congrArg Fr.fl he
    obtain rfl : d = [] := congrArg Fr.d he
    obtain rfl : rs = [] := congrArg Fr.rs he
    obtain rfl : t = zeros16 := congrArg Fr.t he
    exact ⟨4, false, rfl, (by simp [tagN]), (by simp [tagN]), (by simp [tagN, knownL]), (fun e => by omega), rd_4 _ id a c more t1 t2 t4⟩
  · subst hk
    obtain rfl := Option.some.inj hm2
    obtain rfl : a = 0 := congrArg Fr.a he
    obtain rfl : b = 0 := congrArg Fr.b he
    obtain rfl : fl = false := congrArg Fr.fl he
    obtain rfl : d = [] := congrArg Fr.d he
    obtain rfl : rs = [] := congrArg Fr.rs he
    obtain rfl : t = zeros16 := congrArg Fr.t he
    exact ⟨5, false, rfl, (by simp [tagN]), (by simp [tagN]), (by simp [tagN, knownL]), (fun e => by omega), rd_5 _ id c more t1 t4⟩
  · subst hk
    obtain rfl := Option.some.inj hm2
    obtain rfl : id = 0 := congrArg Fr.id he
    obtain rfl : b = 0 := congrArg Fr.b he
    obtain rfl : c = 0 := congrArg Fr.c he
    obtain rfl : fl = false := congrArg Fr.fl he
    obtain rfl : rs = [] := congrArg Fr.rs he
    obtain rfl : t = zeros16 := congrArg Fr.t he
    exact ⟨6, false, rfl, (by simp [tagN]), (by simp [tagN]), (by simp [tagN, knownL]), (fun e => by omega), rd_6 _ a d more t2 ld⟩
  · subst hk
    obtain rfl := Option.some.inj hm2
    obtain rfl : id = 0 := congrArg Fr.id he
    obtain rfl : a = 0 := congrArg Fr.a he
    obtain rfl : b = 0 := congrArg Fr.b he
    obtain rfl : c = 0 := congrArg Fr.c he
    obtain rfl : fl = false := congrArg Fr.fl he
    obtain rfl : rs = [] := congrArg Fr.rs he
    obtain rfl : t = zeros16 := congrArg Fr.t he
    exact ⟨7, false, rfl, (by simp [tagN]), (by simp [tagN]), (by simp [tagN, knownL]), (fun e => by omega), rd_7 _ d more ld⟩
  · subst hk
    obtain rfl := Option.some.inj hm2
    obtain rfl : b = 0 := congrArg Fr.b he
    obtain rfl : c = 0 := congrArg Fr.c he
    obtain rfl : rs = [] := congrArg Fr.rs he
    obtain rfl : t = zeros16 := congrArg Fr.t he
    exact ⟨8, false, rfl, (by by_cases h0 : a = 0 <;> cases fl <;> simp [tagN, h0]), (by by_cases h0 : a = 0 <;> cases fl <;> simp [tagN, h0]), (by by_cases h0 : a = 0 <;> cases fl <;> simp [tagN, knownL, h0]), (fun _ => by by_cases h0 : a = 0 <;> cases fl <;> simp [tagN, h0]), rd_8 id a fl d more t1 t2 ld⟩
  · subst hk
    obtain rfl := Option.some.inj hm2
    obtain rfl : id = 0 := congrArg Fr.id he
    obtain rfl : b = 0 := congrArg Fr.b he
    obtain rfl : c = 0 := congrArg Fr.c he
    obtain rfl : fl = false := congrArg Fr.fl he
    obtain rfl : d = [] := congrArg Fr.d he
    obtain rfl : rs = [] := congrArg Fr.rs he
    obtain rfl : t = zeros16 := congrArg Fr.t he
    exact ⟨16, false, rfl, (by simp [tagN]), (by simp [tagN]), (by simp [tagN, knownL]), (fun e => by omega), rd_16 _ a more t2⟩
  · subst hk
    obtain rfl := Option.some.inj hm2
    obtain rfl : b = 0 := congrArg Fr.b he
    obtain rfl : c = 0 := congrArg Fr.c he
    obtain rfl : fl = false := congrArg Fr.fl he
    obtain rfl : d = [] := congrArg Fr.d he
    obtain rfl : rs = [] := congrArg Fr.rs he
    obtain rfl : t = zeros16 := congrArg Fr.t he
    exact ⟨17, false, rfl, (by simp [tagN]), (by simp [tagN]), (by simp [tagN, knownL]), (fun e => by omega), rd_17 _ id a more t1 t2⟩
  · subst hk
    obtain rfl := Option.some.inj hm2
    obtain rfl : id = 0 := congrArg Fr.id he
    obtain rfl : b = 0 := congrArg Fr.b he
    obtain rfl : c = 0 := congrArg Fr.c he
    obtain rfl : d = [] := congrArg Fr.d he
    obtain rfl : rs = [] := congrArg Fr.rs he
    obtain rfl : t = zeros16 := congrArg Fr.t he
    exact ⟨18, fl, rfl, (by cases fl <;> simp [tagN]), (by cases fl <;> simp [tagN]), (by cases fl <;> simp [tagN, knownL]), (fun e => by omega), rd_18 _ a fl more t2⟩
  · subst hk
    obtain rfl := Option.some.inj hm2
    obtain rfl : id = 0 := congrArg Fr.id he
    obtain rfl : b = 0 := congrArg Fr.b he
    obtain rfl : c = 0 := congrArg Fr.c he
    obtain rfl : fl = false := congrArg Fr.fl he
    obtain rfl : d = [] := congrArg Fr.d he
    obtain rfl : rs = [] := congrArg Fr.rs he
    obtain rfl : t = zeros16 := congrArg Fr.t he
    exact ⟨20, false, rfl, (by simp [tagN]), (by simp [tagN]), (by simp [tagN, knownL]), (fun e => by omega), rd_20 _ a more t2⟩
  · subst hk
    obtain rfl := Option.some.inj hm2
    obtain rfl : b = 0 := congrArg Fr.b he
    obtain rfl : c = 0 := congrArg Fr.c he
    obtain rfl : fl = false := congrArg Fr.fl he
    obtain rfl : d = [] := congrArg Fr.d he
    obtain rfl : rs = [] := congrArg Fr.rs he
    obtain rfl : t = zeros16 := congrArg Fr.t he
    exact ⟨21, false, rfl, (by simp [tagN]), (by simp [tagN]), (by simp [tagN, knownL]), (fun e => by omega), rd_21 _ id a more t1 t2⟩
  · subst hk
    obtain rfl := Option.some.inj hm2
    obtain rfl : id = 0 := congrArg Fr.id he
    obtain rfl : b = 0 := congrArg Fr.b he
    obtain rfl : c = 0 := congrArg Fr.c he
    obtain rfl : d = [] := congrArg Fr.d he
    obtain rfl : rs = [] := congrArg Fr.rs he
    obtain rfl : t = zeros16 := congrArg Fr.t he
    exact ⟨22, fl, rfl, (by cases fl <;> simp [tagN]), (by cases fl <;> simp [tagN]), (by cases fl <;> simp [tagN, knownL]), (fun e => by omega), rd_22 _ a fl more t2⟩
  · subst hk
    obtain rfl := Option.some.inj hm2
    obtain rfl : b = 0 := congrArg Fr.b he
    obtain rfl : c = 0 := congrArg Fr.c he
    obtain rfl : fl = false := congrArg Fr.fl he
    obtain rfl : rs = [] := congrArg Fr.rs he
    have hok : okN 24 _ = true := ho
    simp only [okN, Bool.and_eq_true, decide_eq_true_eq] at hok
    exact ⟨24, false, rfl, (by simp [tagN]), (by simp [tagN]), (by simp [tagN, knownL]), (fun e => by omega), rd_24 _ id a d t more t1 t2 hok.2 ht⟩
  · subst hk
    obtain rfl := Option.some.inj hm2
    obtain rfl : a = 0 := congrArg Fr.a he
    obtain rfl : b = 0 := congrArg Fr.b he
    obtain rfl : c = 0 := congrArg Fr.c he
    obtain rfl : fl = false := congrArg Fr.fl he
    obtain rfl : d = [] := congrArg Fr.d he
    obtain rfl : rs = [] := congrArg Fr.rs he
    obtain rfl : t = zeros16 := congrArg Fr.t he
    exact ⟨25, false, rfl, (by simp [tagN]), (by simp [tagN]), (by simp [tagN, knownL]), (fun e => by omega), rd_25 _ id more t1⟩
  · subst hk
    obtain rfl := Option.some.inj hm2
    obtain rfl : id = 0 := congrArg Fr.id he
    obtain rfl : a = 0 := congrArg Fr.a he
    obtain rfl : b = 0 := congrArg Fr.b he
    obtain rfl : c = 0 := congrArg Fr.c he
    obtain rfl : fl = false := congrArg Fr.fl he
    obtain rfl : rs = [] := congrArg Fr.rs he
    obtain rfl : t = zeros16 := congrArg Fr.t he
    have hok : okN 26 _ = true := ho
    simp only [okN, decide_eq_true_eq] at hok
    exact ⟨26, false, rfl, (by simp [tagN]), (by simp [tagN]), (by simp [tagN, knownL]), (fun e => by omega), rd_26 _ d more hok⟩
  · subst hk
    obtain rfl := Option.some.inj hm2
    obtain rfl : id = 0 := congrArg Fr.id he
    obtain rfl : a = 0 := congrArg Fr.a he
    obtain rfl : b = 0 := congrArg Fr.b he
    obtain rfl : c = 0 := congrArg Fr.c he
    obtain rfl : fl = false := congrArg Fr.fl he
    obtain rfl : rs = [] := congrArg Fr.rs he
    obtain rfl : t = zeros16 := congrArg Fr.t he
    have hok : okN 27 _ = true := ho
    simp only [okN, decide_eq_true_eq] at hok
    exact ⟨27, false, rfl, (by simp [tagN]), (by simp [tagN]), (by simp [tagN, knownL]), (fun e => by omega), rd_27 _ d more hok⟩
  · subst hk
    obtain rfl := Option.some.inj hm2
    obtain rfl : id = 0 := congrArg Fr.id he
    obtain rfl : b = 0 := congrArg Fr.b he
    obtain rfl : rs = [] := congrArg Fr.rs he
    obtain rfl : t = zeros16 := congrArg Fr.t he
    have hok : okN 28 _ = true := ho
    simp only [okN, Bool.and_eq_true, decide_eq_true_eq, Bool.or_eq_true, Bool.not_eq_true'] at hok
    exact ⟨28, fl, rfl, (by cases fl <;> simp [tagN]), (by cases fl <;> simp [tagN]), (by cases fl <;> simp [tagN, knownL]), (fun e => by omega), rd_28 _ a c fl d more t2 t4 ld (fun e => by subst e; simpa using hok.2)⟩
  · subst hk
    obtain rfl := Option.some.inj hm2
    obtain rfl : id = 0 := congrArg Fr.id he
    obtain rfl : a = 0 := congrArg Fr.a he
    obtain rfl : b = 0 := congrArg Fr.b he
    obtain rfl : c = 0 := congrArg Fr.c he
    obtain rfl : fl = false := congrArg Fr.fl he
    obtain rfl : d = [] := congrArg Fr.d he
    obtain rfl : rs = [] := congrArg Fr.rs he
    obtain rfl : t = zeros16 := congrArg Fr.t he
    exact ⟨30, false, rfl, (by simp [tagN]), (by simp [tagN]), (by simp [tagN, knownL]), (fun e => by omega), rd_30 _ more⟩
theorem put_next {f : Fr} (h : rightF f = true) (ht : f.t.length = 16) (more : List UInt8) (hz : f.k = 0 → f.a = 1200 ∨ more.head? ≠ some 0) : nextF ⟨fputL f ++ more, 0⟩ = (f, ⟨more, 0⟩) := by
  obtain ⟨k, fl, h1, h2, h3, h4, _, h5⟩ := put_read h ht more hz
  exact next_of h h1 h2 h3 h4 h5
end Go.Proofs.YteegonadodmeeaaDoor
