/- Plain laws: a frame that is put is read again; one that is cut off is none; frames one behind the other; bytes 0. No program in sight. -/
import Derived.Test.YteegonadodmeeaaDoorGaQ
import Derived.Test.YteegonadodmeeaaDoorGbB
namespace Go.Proofs.YteegonadodmeeaaDoor

theorem putL_small (n : Nat) (h : n < 64) : putL n = [UInt8.ofNat n] := by
  have h1 : szN n = 1 := by rcases szN_cases n with h' | h' | h' | h' | h' <;> omega
  rw [putL_eq n (by omega), h1]
  simp [wd, be, tg]
theorem bytes_put (b more : List UInt8) : RS.bytes ⟨b ++ more, 0⟩ b.length = (b, ⟨more, 0⟩) := by
  unfold RS.bytes
  rw [if_neg (by simp), if_neg (by simp)]
  simp
theorem bytes_putN (b more : List UInt8) (n : Nat) (h : b.length = n) : RS.bytes ⟨b ++ more, 0⟩ n = (b, ⟨more, 0⟩) := by subst h; exact bytes_put b more
theorem byte_put (c : UInt8) (more : List UInt8) : RS.byte ⟨c :: more, 0⟩ = (c, ⟨more, 0⟩) := by
  unfold RS.byte
  rw [show c :: more = [c] ++ more from rfl, bytes_putN [c] more 1 rfl]
  rfl
theorem int_put (n : Nat) (more : List UInt8) (h : n ≤ topN) : RS.int ⟨putL n ++ more, 0⟩ = (n, ⟨more, 0⟩) := int_putL n more (by unfold topN at h; omega)
theorem tag_put (n : Nat) (more : List UInt8) (h : n < 64) : RS.int ⟨UInt8.ofNat n :: more, 0⟩ = (n, ⟨more, 0⟩) := by
  have e : UInt8.ofNat n :: more = putL n ++ more := by rw [putL_small n h]; rfl
  rw [e]
  exact int_put n more (by unfold topN; omega)
theorem next_of {f : Fr} {fl : Bool} {k : Nat} {more : List UInt8} (h : rightF f = true) (hk : f.k = (k : Int)) (ht : tagN f < 64) (h3 : tagN f ≠ 3) (hkn : knownL (tagN f) = ((k : Int), fl))
    (hr : readN (tagN f) k (Fr.ofKind (k : Int) fl) ⟨bodyN k f ++ more, 0⟩ = (f, ⟨more, 0⟩)) : nextF ⟨fputL f ++ more, 0⟩ = (f, ⟨more, 0⟩) := by
  obtain ⟨m, hm, _⟩ := right_parts h
  rw [hk] at hm
  have e : fputL f ++ more = UInt8.ofNat (tagN f) :: (bodyN k f ++ more) := by
    unfold fputL
    rw [if_pos h, hk]
    rfl
  rw [e]
  unfold nextF
  rw [tag_put _ _ ht]
  simp only [hkn]
  rw [if_neg (by simp), hm]
  simp only [Option.isNone_some, Bool.false_eq_true, if_false]
  rw [show ((k : Int)).toNat = k from rfl, hr]
  unfold nextK three
  rw [if_neg h3, if_pos ⟨rfl, h⟩]
/-- Bytes 0 ahead, of those that are put. -/
theorem zeroN_rep : ∀ (a n : Nat) (more : List UInt8), a ≤ n → (a = n ∨ more.head? ≠ some 0) → zeroN n (List.replicate a 0 ++ more) = a
  | 0, 0, _, _, _ => rfl
  | 0, n + 1, more, _, h => by
    rcases h with h | h
    · omega
    · cases more with
      | nil => rfl
      | cons c l =>
        show (if c = 0 then _ else _) = _
        rw [if_neg (by intro e; subst e; simp at h)]
  | a + 1, 0, _, h, _ => by omega
  | a + 1, n + 1, more, h1, h2 => by
    show (if (0 : UInt8) = 0 then zeroN n (List.replicate a 0 ++ more) + 1 else 0) = _
    rw [if_pos rfl, zeroN_rep a n more (by omega) (by rcases h2 with h | h; exact .inl (by omega); exact .inr h)]
theorem top_parts {f : Fr} (h : topB f = true) : f.id ≤ topN ∧ f.a ≤ topN ∧ f.b ≤ topN ∧ f.c ≤ topN := by
  simp only [topB, Bool.and_eq_true, decide_eq_true_eq] at h
  exact ⟨h.1.1.1, h.1.1.2, h.1.2, h.2⟩
theorem gaps_put : ∀ (l : List (Nat × Nat)) (lo : Nat) (out : List (Nat × Nat)) (more : List UInt8), lo ≤ topN → rngB (some lo) l = true →
    readGaps l.length out lo ⟨gapsL lo l ++ more, 0⟩ = (out ++ l, ⟨more, 0⟩)
  | [], lo, out, more, _, _ => by simp [readGaps, gapsL]
  | x :: l, lo, out, more, hlo, h => by
    simp only [rngB, Bool.and_eq_true, decide_eq_true_eq] at h
    obtain ⟨⟨⟨⟨h1, h2⟩, h3⟩, h4⟩, h5⟩ := h
    have e : gapsL lo (x :: l) ++ more = putL (lo - x.2 - 2) ++ (putL (x.2 - x.1) ++ (gapsL x.1 l ++ more)) := by simp [gapsL]
    have i1 := int_put (lo - x.2 - 2) (putL (x.2 - x.1) ++ (gapsL x.1 l ++ more)) (by omega)
    have i2 := int_put (x.2 - x.1) (gapsL x.1 l ++ more) (by omega)
    show (if _ then _ else _) = _
    rw [e, i1]
    simp only
    rw [i2]
    simp only
    rw [if_neg (by simp; omega), show lo - 2 - (lo - x.2 - 2) = x.2 by omega, show x.2 - (x.2 - x.1) = x.1 by omega, gaps_put l x.1 (out ++ [(x.1, x.2)]) more (by omega) h5]
    simp
theorem topN_len {n : Nat} (h : n ≤ 100000) : n ≤ topN := by unfold topN; omega
theorem rd_4 (n : Nat) (id a c : Nat) (more : List UInt8) (hid : id ≤ topN) (ha : a ≤ topN) (hc : c ≤ topN) : readN n 4 (Fr.ofKind ((4 : Nat) : Int) false) ⟨bodyN 4 (⟨4, id, a, 0, c, false, [], [], zeros16⟩ : Fr) ++ more, 0⟩ = ((⟨4, id, a, 0, c, false, [], [], zeros16⟩ : Fr), ⟨more, 0⟩) := by
  have e : bodyN 4 (⟨4, id, a, 0, c, false, [], [], zeros16⟩ : Fr) ++ more = putL id ++ (putL c ++ (putL a ++ (more))) := by simp [bodyN]
  rw [e]
  simp only [readN, int_put id _ hid, int_put c _ hc, int_put a _ ha]
  rfl
theorem rd_5 (n : Nat) (id c : Nat) (more : List UInt8) (hid : id ≤ topN) (hc : c ≤ topN) : readN n 5 (Fr.ofKind ((5 : Nat) : Int) false) ⟨bodyN 5 (⟨5, id, 0, 0, c, false, [], [], zeros16⟩ : Fr) ++ more, 0⟩ = ((⟨5, id, 0, 0, c, false, [], [], zeros16⟩ : Fr), ⟨more, 0⟩) := by
  have e : bodyN 5 (⟨5, id, 0, 0, c, false, [], [], zeros16⟩ : Fr) ++ more = putL id ++ (putL c ++ (more)) := by simp [bodyN]
  rw [e]
  simp only [readN, int_put id _ hid, int_put c _ hc]
  rfl
theorem rd_16 (n : Nat) (a : Nat) (more : List UInt8) (ha : a ≤ topN) : readN n 16 (Fr.ofKind ((16 : Nat) : Int) false) ⟨bodyN 16 (⟨16, 0, a, 0, 0, false, [], [], zeros16⟩ : Fr) ++ more, 0⟩ = ((⟨16, 0, a, 0, 0, false, [], [], zeros16⟩ : Fr), ⟨more, 0⟩) := by
  have e : bodyN 16 (⟨16, 0, a, 0, 0, false, [], [], zeros16⟩ : Fr) ++ more = putL a ++ (more) := by simp [bodyN]
  rw [e]
  simp only [readN, int_put a _ ha]
  rfl
theorem rd_17 (n : Nat) (id a : Nat) (more : List UInt8) (hid : id ≤ topN) (ha : a ≤ topN) : readN n 17 (Fr.ofKind ((17 : Nat) : Int) false) ⟨bodyN 17 (⟨17, id, a, 0, 0, false, [], [], zeros16⟩ : Fr) ++ more, 0⟩ = ((⟨17, id, a, 0, 0, false, [], [], zeros16⟩ : Fr), ⟨more, 0⟩) := by
  have e : bodyN 17 (⟨17, id, a, 0, 0, false, [], [], zeros16⟩ : Fr) ++ more = putL id ++ (putL a ++ (more)) := by simp [bodyN]
  rw [e]
  simp only [readN, int_put id _ hid, int_put a _ ha]
  rfl
theorem rd_18 (n : Nat) (a : Nat) (fl : Bool) (more : List UInt8) (ha : a ≤ topN) : readN n 18 (Fr.ofKind ((18 : Nat) : Int) fl) ⟨bodyN 18 (⟨18, 0, a, 0, 0, fl, [], [], zeros16⟩ : Fr) ++ more, 0⟩ = ((⟨18, 0, a, 0, 0, fl, [], [], zeros16⟩ : Fr), ⟨more, 0⟩) := by
  have e : bodyN 18 (⟨18, 0, a, 0, 0, fl, [], [], zeros16⟩ : Fr) ++ more = putL a ++ (more) := by simp [bodyN]
  rw [e]
  simp only [readN, int_put a _ ha]
  rfl
theorem rd_20 (n : Nat) (a : Nat) (more : List UInt8) (ha : a ≤ topN) : readN n 20 (Fr.ofKind ((20 : Nat) : Int) false) ⟨bodyN 20 (⟨20, 0, a, 0, 0, false, [], [], zeros16⟩ : Fr) ++ more, 0⟩ = ((⟨20, 0, a, 0, 0, false, [], [], zeros16⟩ : Fr), ⟨more, 0⟩) := by
  have e : bodyN 20 (⟨20, 0, a, 0, 0, false, [], [], zeros16⟩ : Fr) ++ more = putL a ++ (more) := by simp [bodyN]
  rw [e]
  simp only [readN, int_put a _ ha]
  rfl
theorem rd_21 (n : Nat) (id a : Nat) (more : List UInt8) (hid : id ≤ topN) (ha : a ≤ topN) : readN n 21 (Fr.ofKind ((21 : Nat) : Int) false) ⟨bodyN 21 (⟨21, id, a, 0, 0, false, [], [], zeros16⟩ : Fr) ++ more, 0⟩ = ((⟨21, id, a, 0, 0, false, [], [], zeros16⟩ : Fr), ⟨more, 0⟩) := by
  have e : bodyN 21 (⟨21, id, a, 0, 0, false, [], [], zeros16⟩ : Fr) ++ more = putL id ++ (putL a ++ (more)) := by simp [bodyN]
  rw [e]
  simp only [readN, int_put id _ hid, int_put a _ ha]
  rfl
theorem rd_22 (n : Nat) (a : Nat) (fl : Bool) (more : List UInt8) (ha : a ≤ topN) : readN n 22 (Fr.ofKind ((22 : Nat) : Int) fl) ⟨bodyN 22 (⟨22, 0, a, 0, 0, fl, [], [], zeros16⟩ : Fr) ++ more, 0⟩ = ((⟨22, 0, a, 0, 0, fl, [], [], zeros16⟩ : Fr), ⟨more, 0⟩) := by
  have e : bodyN 22 (⟨22, 0, a, 0, 0, fl, [], [], zeros16⟩ : Fr) ++ more = putL a ++ (more) := by simp [bodyN]
  rw [e]
  simp only [readN, int_put a _ ha]
  rfl
theorem rd_25 (n : Nat) (id : Nat) (more : List UInt8) (hid : id ≤ topN) : readN n 25 (Fr.ofKind ((25 : Nat) : Int) false) ⟨bodyN 25 (⟨25, id, 0, 0, 0, false, [], [], zeros16⟩ : Fr) ++ more, 0⟩ = ((⟨25, id, 0, 0, 0, false, [], [], zeros16⟩ : Fr), ⟨more, 0⟩) := by
  have e : bodyN 25 (⟨25, id, 0, 0, 0, false, [], [], zeros16⟩ : Fr) ++ more = putL id ++ (more) := by simp [bodyN]
  rw [e]
  simp only [readN, int_put id _ hid]
  rfl
theorem rd_6 (n : Nat) (a : Nat) (d : List UInt8) (more : List UInt8) (ha : a ≤ topN) (hd : d.length ≤ topN) : readN n 6 (Fr.ofKind ((6 : Nat) : Int) false) ⟨bodyN 6 (⟨6, 0, a, 0, 0, false, d, [], zeros16⟩ : Fr) ++ more, 0⟩ = ((⟨6, 0, a, 0, 0, false, d, [], zeros16⟩ : Fr), ⟨more, 0⟩) := by
  have e : bodyN 6 (⟨6, 0, a, 0, 0, false, d, [], zeros16⟩ : Fr) ++ more = putL a ++ (putL d.length ++ (d ++ more)) := by simp [bodyN, dataL]
  rw [e]
  simp only [readN, int_put a _ ha, int_put d.length _ hd, bytes_put d]
  rfl
theorem rd_7 (n : Nat) (d : List UInt8) (more : List UInt8) (hd : d.length ≤ topN) : readN n 7 (Fr.ofKind ((7 : Nat) : Int) false) ⟨bodyN 7 (⟨7, 0, 0, 0, 0, false, d, [], zeros16⟩ : Fr) ++ more, 0⟩ = ((⟨7, 0, 0, 0, 0, false, d, [], zeros16⟩ : Fr), ⟨more, 0⟩) := by
  have e : bodyN 7 (⟨7, 0, 0, 0, 0, false, d, [], zeros16⟩ : Fr) ++ more = putL d.length ++ (d ++ more) := by simp [bodyN, dataL]
  rw [e]
  simp only [readN, int_put d.length _ hd, bytes_put d]
  rfl
theorem rd_26 (n : Nat) (d : List UInt8) (more : List UInt8) (hd : d.length = 8) : readN n 26 (Fr.ofKind ((26 : Nat) : Int) false) ⟨bodyN 26 (⟨26, 0, 0, 0, 0, false, d, [], zeros16⟩ : Fr) ++ more, 0⟩ = ((⟨26, 0, 0, 0, 0, false, d, [], zeros16⟩ : Fr), ⟨more, 0⟩) := by
  have e : bodyN 26 (⟨26, 0, 0, 0, 0, false, d, [], zeros16⟩ : Fr) ++ more = d ++ more := by simp [bodyN]
  rw [e]
  simp only [readN, bytes_putN d _ 8 hd]
  rfl
theorem rd_27 (n : Nat) (d : List UInt8) (more : List UInt8) (hd : d.length = 8) : readN n 27 (Fr.ofKind ((27 : Nat) : Int) false) ⟨bodyN 27 (⟨27, 0, 0, 0, 0, false, d, [], zeros16⟩ : Fr) ++ more, 0⟩ = ((⟨27, 0, 0, 0, 0, false, d, [], zeros16⟩ : Fr), ⟨more, 0⟩) := by
  have e : bodyN 27 (⟨27, 0, 0, 0, 0, false, d, [], zeros16⟩ : Fr) ++ more = d ++ more := by simp [bodyN]
  rw [e]
  simp only [readN, bytes_putN d _ 8 hd]
  rfl
theorem rd_1 (n : Nat) (more : List UInt8) : readN n 1 (Fr.ofKind ((1 : Nat) : Int) false) ⟨bodyN 1 (⟨1, 0, 0, 0, 0, false, [], [], zeros16⟩ : Fr) ++ more, 0⟩ = ((⟨1, 0, 0, 0, 0, false, [], [], zeros16⟩ : Fr), ⟨more, 0⟩) := by
  have e : bodyN 1 (⟨1, 0, 0, 0, 0, false, [], [], zeros16⟩ : Fr) ++ more = more := by simp [bodyN]
  rw [e]
  rfl
theorem rd_30 (n : Nat) (more : List UInt8) : readN n 30 (Fr.ofKind ((30 : Nat) : Int) false) ⟨bodyN 30 (⟨30, 0, 0, 0, 0, false, [], [], zeros16⟩ : Fr) ++ more, 0⟩ = ((⟨30, 0, 0, 0, 0, false, [], [], zeros16⟩ : Fr), ⟨more, 0⟩) := by
  have e : bodyN 30 (⟨30, 0, 0, 0, 0, false, [], [], zeros16⟩ : Fr) ++ more = more := by simp [bodyN]
  rw [e]
  rfl
theorem rd_0 (n a : Nat) (more : List UInt8) (h1 : 1 ≤ a) (h2 : a ≤ 1200) (h3 : a = 1200 ∨ more.head? ≠ some 0) : readN n 0 (Fr.ofKind ((0 : Nat) : Int) false) ⟨bodyN 0 (⟨0, 0, a, 0, 0, false, [], [], zeros16⟩ : Fr) ++ more, 0⟩ = ((⟨0, 0, a, 0, 0, false, [], [], zeros16⟩ : Fr), ⟨more, 0⟩) := by
  have z := zeroN_rep (a - 1) 1199 more (by omega) (by rcases h3 with h | h; exact .inl (by omega); exact .inr h)
  show (_, _) = _
  simp only [bodyN]
  rw [z, show a - 1 + 1 = a by omega, List.drop_append_of_le_length (by simp), List.drop_of_length_le (by simp)]
  rfl
theorem rd_2 (n b : Nat) (rs : List (Nat × Nat)) (more : List UInt8) (hb : b ≤ topN) (hr : rangesB rs = true) : readN n 2 (Fr.ofKind ((2 : Nat) : Int) false) ⟨bodyN 2 (⟨2, 0, 0, b, 0, false, [], rs, zeros16⟩ : Fr) ++ more, 0⟩ = ((⟨2, 0, 0, b, 0, false, [], rs, zeros16⟩ : Fr), ⟨more, 0⟩) := by
  simp only [rangesB, Bool.and_eq_true, decide_eq_true_eq] at hr
  obtain ⟨⟨h1, h2⟩, h3⟩ := hr
  cases rs with
  | nil => simp at h2
  | cons x l =>
    simp only [rngB, Bool.and_eq_true, decide_eq_true_eq] at h1
    obtain ⟨⟨g1, g2⟩, g3⟩ := h1
    have hl : l.length ≤ 15 := by simpa using h3
    have e : bodyN 2 (⟨2, 0, 0, b, 0, false, [], x :: l, zeros16⟩ : Fr) ++ more = putL x.2 ++ (putL b ++ (putL l.length ++ (putL (x.2 - x.1) ++ (gapsL x.1 l ++ more)))) := by simp [bodyN, ackL]
    rw [e]
    show readAckL _ _ = _
    have g := gaps_put l x.1 [(x.1, x.2)] more (by omega) g3
    unfold readAckL
    simp only [int_put x.2 _ g2, int_put b _ hb, int_put l.length _ (topN_len (by omega)), int_put (x.2 - x.1) _ (show x.2 - x.1 ≤ topN by omega)]
    rw [if_neg (by simp; omega), show x.2 - (x.2 - x.1) = x.1 by omega, g]
    rfl
theorem rd_8 (id a : Nat) (fl : Bool) (d : List UInt8) (more : List UInt8) (hid : id ≤ topN) (ha : a ≤ topN) (hd : d.length ≤ topN) :
    readN (tagN (⟨8, id, a, 0, 0, fl, d, [], zeros16⟩ : Fr)) 8 (Fr.ofKind ((8 : Nat) : Int) false) ⟨bodyN 8 (⟨8, id, a, 0, 0, fl, d, [], zeros16⟩ : Fr) ++ more, 0⟩ = ((⟨8, id, a, 0, 0, fl, d, [], zeros16⟩ : Fr), ⟨more, 0⟩) := by
  have hdt : decide (tagN (⟨8, id, a, 0, 0, fl, d, [], zeros16⟩ : Fr) % 2 = 1) = fl := by
    by_cases h0 : a = 0 <;> cases fl <;> simp [tagN, h0]
  have h2 : tagN (⟨8, id, a, 0, 0, fl, d, [], zeros16⟩ : Fr) / 2 % 2 = 1 := by
    by_cases h0 : a = 0 <;> cases fl <;> simp [tagN, h0]
  have h4 : tagN (⟨8, id, a, 0, 0, fl, d, [], zeros16⟩ : Fr) / 4 % 2 = if a = 0 then 0 else 1 := by
    by_cases h0 : a = 0 <;> cases fl <;> simp [tagN, h0]
  show readStreamL _ _ _ = _
  unfold readStreamL
  rw [hdt, h2, h4]
  by_cases h0 : a = 0
  · subst h0
    have e : bodyN 8 (⟨8, id, 0, 0, 0, fl, d, [], zeros16⟩ : Fr) ++ more = putL id ++ (putL d.length ++ (d ++ more)) := by simp [bodyN, dataL]
    rw [e]
    simp only [int_put id _ hid, if_true, int_put d.length _ hd, bytes_put d, show ¬ ((0 : Nat) = 1) by decide, if_false]
    rfl
  · have e : bodyN 8 (⟨8, id, a, 0, 0, fl, d, [], zeros16⟩ : Fr) ++ more = putL id ++ (putL a ++ (putL d.length ++ (d ++ more))) := by simp [bodyN, dataL, h0]
    rw [e]
    simp only [int_put id _ hid, int_put a _ ha, if_neg h0, if_true, int_put d.length _ hd, bytes_put d]
    rfl
theorem rd_24 (n id a : Nat) (d t : List UInt8) (more : List UInt8) (hid : id ≤ topN) (ha : a ≤ topN) (hd : d.length ≤ 20) (ht : t.length = 16) :
    readN n 24 (Fr.ofKind ((24 : Nat) : Int) false) ⟨bodyN 24 (⟨24, id, a, 0, 0, false, d, [], t⟩ : Fr) ++ more, 0⟩ = ((⟨24, id, a, 0, 0, false, d, [], t⟩ : Fr), ⟨more, 0⟩) := by
  have e : bodyN 24 (⟨24, id, a, 0, 0, false, d, [], t⟩ : Fr) ++ more = putL id ++ (putL a ++ (UInt8.ofNat d.length :: (d ++ (t ++ more)))) := by simp [bodyN]
  have en : (UInt8.ofNat d.length).toNat = d.length := UInt8.toNat_ofNat_of_lt' (by show _ < 256; omega)
  rw [e]
  simp only [readN, int_put id _ hid, int_put a _ ha, byte_put, en, bytes_put d, bytes_putN t _ 16 ht, tokL, ht, if_true]
  rfl
theorem rd_28 (n a c : Nat) (fl : Bool) (d : List UInt8) (more : List UInt8) (ha : a ≤ topN) (hc : c ≤ topN) (hd : d.length ≤ topN) (h0 : fl = true → a = 0) :
    readN n 28 (Fr.ofKind ((28 : Nat) : Int) fl) ⟨bodyN 28 (⟨28, 0, a, 0, c, fl, d, [], zeros16⟩ : Fr) ++ more, 0⟩ = ((⟨28, 0, a, 0, c, fl, d, [], zeros16⟩ : Fr), ⟨more, 0⟩) := by
  cases fl with
  | false =>
    have e : bodyN 28 (⟨28, 0, a, 0, c, false, d, [], zeros16⟩ : Fr) ++ more = putL c ++ (putL a ++ (putL d.length ++ (d ++ more))) := by simp [bodyN, dataL]
    rw [e]
    simp only [readN, Fr.ofKind, int_put c _ hc, int_put a _ ha, Bool.false_eq_true, if_false, int_put d.length _ hd, bytes_put d]
    rfl
  | true =>
    obtain rfl := h0 rfl
    have e : bodyN 28 (⟨28, 0, 0, 0, c, true, d, [], zeros16⟩ : Fr) ++ more = putL c ++ (putL d.length ++ (d ++ more)) := by simp [bodyN, dataL]
    rw [e]
    simp only [readN, Fr.ofKind, int_put c _ hc, if_true, int_put d.length _ hd, bytes_put d]
    rfl
/-- WHAT IS PUT IS READ AGAIN. -/
theorem put_read {f : Fr} (h : rightF f = true) (ht : f.t.length = 16) (more : List UInt8) (hz : f.k = 0 → f.a = 1200 ∨ more.head? ≠ some 0) : ∃ (k : Nat) (fl : Bool), f.k = (k : Int) ∧ tagN f < 64 ∧ tagN f ≠ 3 ∧ knownL (tagN f) = ((k : Int), fl) ∧ (k = 8 → tagN f / 2 % 2 = 1) ∧ readN (tagN f) k (Fr.ofKind (k : Int) fl) ⟨bodyN k f ++ more, 0⟩ = (f, ⟨more, 0⟩) := by
  obtain ⟨m, hm, htop, he, ho⟩ := right_parts h
  obtain ⟨t1, t2, t3, t4⟩ := top_parts htop
  obtain ⟨l1, l2⟩ := right_len h
  have ld := topN_len (n := f.d.length) (by omega)
  have hm2 := hm
  obtain ⟨k, id, a, b, c, fl, d, rs, t⟩ := f
  simp only at *
  rcases kind_cases hm with hk | hk | hk | hk | hk | hk | hk | hk | hk | hk | hk | hk | hk | hk | hk | hk | hk | hk | hk | hk
  · subst hk
    obtain rfl := Option.some.inj hm2
    obtain rfl : id = 0 := congrArg Fr.id he
    obtain rfl : b = 0 := congrArg Fr.b he
    obtain rfl : c = 0 := congrArg Fr.c he
    obtain rfl : fl = false := congrArg Fr.fl he
    obtain rfl : d = [] := congrArg Fr.d he
    obtain rfl : rs = [] := congrArg Fr.rs he
    obtain rfl : t = zeros16 := congrArg Fr.t he
    have hok : okN 0 _ = true := ho
    simp only [okN, Bool.and_eq_true, decide_eq_true_eq] at hok
    exact ⟨0, false, rfl, (by simp [tagN]), (by simp [tagN]), (by simp [tagN, knownL]), (fun e => by omega), rd_0 _ a more hok.1 hok.2 (hz rfl)⟩
  · subst hk
    obtain rfl := Option.some.inj hm2
    obtain rfl : id = 0 := congrArg Fr.id he
    obtain rfl : a = 0 := congrArg Fr.a he
    obtain rfl : b = 0 := congrArg Fr.b he
    obtain rfl : c = 0 := congrArg Fr.c he
    obtain rfl : fl = false := congrArg Fr.fl he
    obtain rfl : d = [] := congrArg Fr.d he
    obtain rfl : rs = [] := congrArg Fr.rs he
    obtain rfl : t = zeros16 := congrArg Fr.t he
    exact ⟨1, false, rfl, (by simp [tagN]), (by simp [tagN]), (by simp [tagN, knownL]), (fun e => by omega), rd_1 _ more⟩
  · subst hk
    obtain rfl := Option.some.inj hm2
    obtain rfl : id = 0 := congrArg Fr.id he
    obtain rfl : a = 0 := congrArg Fr.a he
    obtain rfl : c = 0 := congrArg Fr.c he
    obtain rfl : fl = false := congrArg Fr.fl he
    obtain rfl : d = [] := congrArg Fr.d he
    obtain rfl : t = zeros16 := congrArg Fr.t he
    exact ⟨2, false, rfl, (by simp [tagN]), (by simp [tagN]), (by simp [tagN, knownL]), (fun e => by omega), rd_2 _ b rs more t3 ho⟩
  · subst hk
    obtain rfl := Option.some.inj hm2
    obtain rfl : b = 0 := congrArg Fr.b he
    obtain rfl : fl = false := congrArg Fr.fl he
    obtain rfl : d = [] := congrArg Fr.d he
    obtain rfl : rs = [] := congrArg Fr.rs he
    obtain rfl : t = zeros16 := congrArg Fr.t he
    exact ⟨4, false, rfl, (by simp [tagN]), (by simp [tagN]), (by simp [tagN, knownL]), (fun e => by omega), rd_4 _ id a c more t1 t2 t4⟩
  · subst hk
    obtain rfl := Option.some.inj hm2
    obtain rfl : a = 0 := congrArg Fr.a he
    obtain rfl : b = 0 := congrArg Fr.b he
    obtain rfl : fl = false := congrArg Fr.fl he
    obtain rfl : d = [] := congrArg Fr.d he
    obtain rfl : rs = [] := congrArg Fr.rs he
    obtain rfl : t = zeros16 := congrArg Fr.t he
    exact ⟨5, false, rfl, (by simp [tagN]), (by simp [tagN]), (by simp [tagN, knownL]), (fun e => by omega), rd_5 _ id c more t1 t4⟩
  · subst hk
    obtain rfl := Option.some.inj hm2
    obtain rfl : id = 0 := congrArg Fr.id he
    obtain rfl : b = 0 := congrArg Fr.b he
    obtain rfl : c = 0 := congrArg Fr.c he
    obtain rfl : fl = false := congrArg Fr.fl he
    obtain rfl : rs = [] := congrArg Fr.rs he
    obtain rfl : t = zeros16 := congrArg Fr.t he
    exact ⟨6, false, rfl, (by simp [tagN]), (by simp [tagN]), (by simp [tagN, knownL]), (fun e => by omega), rd_6 _ a d more t2 ld⟩
  · subst hk
    obtain rfl := Option.some.inj hm2
    obtain rfl : id = 0 := congrArg Fr.id he
    obtain rfl : a = 0 := congrArg Fr.a he
    obtain rfl : b = 0 := congrArg Fr.b he
    obtain rfl : c = 0 := congrArg Fr.c he
    obtain rfl : fl = false := congrArg Fr.fl he
    obtain rfl : rs = [] := congrArg Fr.rs he
    obtain rfl : t = zeros16 := congrArg Fr.t he
    exact ⟨7, false, rfl, (by simp [tagN]), (by simp [tagN]), (by simp [tagN, knownL]), (fun e => by omega), rd_7 _ d more ld⟩
  · subst hk
    obtain rfl := Option.some.inj hm2
    obtain rfl : b = 0 := congrArg Fr.b he
    obtain rfl : c = 0 := congrArg Fr.c he
    obtain rfl : rs = [] := congrArg Fr.rs he
    obtain rfl : t = zeros16 := congrArg Fr.t he
    exact ⟨8, false, rfl, (by by_cases h0 : a = 0 <;> cases fl <;> simp [tagN, h0]), (by by_cases h0 : a = 0 <;> cases fl <;> simp [tagN, h0]), (by by_cases h0 : a = 0 <;> cases fl <;> simp [tagN, knownL, h0]), (fun _ => by by_cases h0 : a = 0 <;> cases fl <;> simp [tagN, h0]), rd_8 id a fl d more t1 t2 ld⟩
  · subst hk
    obtain rfl := Option.some.inj hm2
    obtain rfl : id = 0 := congrArg Fr.id he
    obtain rfl : b = 0 := congrArg Fr.b he
    obtain rfl : c = 0 := congrArg Fr.c he
    obtain rfl : fl = false := congrArg Fr.fl he
    obtain rfl : d = [] := congrArg Fr.d he
    obtain rfl : rs = [] := congrArg Fr.rs he
    obtain rfl : t = zeros16 := congrArg Fr.t he
    exact ⟨16, false, rfl, (by simp [tagN]), (by simp [tagN]), (by simp [tagN, knownL]), (fun e => by omega), rd_16 _ a more t2⟩
  · subst hk
    obtain rfl := Option.some.inj hm2
    obtain rfl : b = 0 := congrArg Fr.b he
    obtain rfl : c = 0 := congrArg Fr.c he
    obtain rfl : fl = false := congrArg Fr.fl he
    obtain rfl : d = [] := congrArg Fr.d he
    obtain rfl : rs = [] := congrArg Fr.rs he
    obtain rfl : t = zeros16 := congrArg Fr.t he
    exact ⟨17, false, rfl, (by simp [tagN]), (by simp [tagN]), (by simp [tagN, knownL]), (fun e => by omega), rd_17 _ id a more t1 t2⟩
  · subst hk
    obtain rfl := Option.some.inj hm2
    obtain rfl : id = 0 := congrArg Fr.id he
    obtain rfl : b = 0 := congrArg Fr.b he
    obtain rfl : c = 0 := congrArg Fr.c he
    obtain rfl : d = [] := congrArg Fr.d he
    obtain rfl : rs = [] := congrArg Fr.rs he
    obtain rfl : t = zeros16 := congrArg Fr.t he
    exact ⟨18, fl, rfl, (by cases fl <;> simp [tagN]), (by cases fl <;> simp [tagN]), (by cases fl <;> simp [tagN, knownL]), (fun e => by omega), rd_18 _ a fl more t2⟩
  · subst hk
    obtain rfl := Option.some.inj hm2
    obtain rfl : id = 0 := congrArg Fr.id he
    obtain rfl : b = 0 := congrArg Fr.b he
    obtain rfl : c = 0 := congrArg Fr.c he
    obtain rfl : fl = false := congrArg Fr.fl he
    obtain rfl : d = [] := congrArg Fr.d he
    obtain rfl : rs = [] := congrArg Fr.rs he
    obtain rfl : t = zeros16 := congrArg Fr.t he
    exact ⟨20, false, rfl, (by simp [tagN]), (by simp [tagN]), (by simp [tagN, knownL]), (fun e => by omega), rd_20 _ a more t2⟩
  · subst hk
    obtain rfl := Option.some.inj hm2
    obtain rfl : b = 0 := congrArg Fr.b he
    obtain rfl : c = 0 := congrArg Fr.c he
    obtain rfl : fl = false := congrArg Fr.fl he
    obtain rfl : d = [] := congrArg Fr.d he
    obtain rfl : rs = [] := congrArg Fr.rs he
    obtain rfl : t = zeros16 := congrArg Fr.t he
    exact ⟨21, false, rfl, (by simp [tagN]), (by simp [tagN]), (by simp [tagN, knownL]), (fun e => by omega), rd_21 _ id a more t1 t2⟩
  · subst hk
    obtain rfl := Option.some.inj hm2
    obtain rfl : id = 0 := congrArg Fr.id he
    obtain rfl : b = 0 := congrArg Fr.b he
    obtain rfl : c = 0 := congrArg Fr.c he
    obtain rfl : d = [] := congrArg Fr.d he
    obtain rfl : rs = [] := congrArg Fr.rs he
    obtain rfl : t = zeros16 := congrArg Fr.t he
    exact ⟨22, fl, rfl, (by cases fl <;> simp [tagN]), (by cases fl <;> simp [tagN]), (by cases fl <;> simp [tagN, knownL]), (fun e => by omega), rd_22 _ a fl more t2⟩
  · subst hk
    obtain rfl := Option.some.inj hm2
    obtain rfl : b = 0 := congrArg Fr.b he
    obtain rfl : c = 0 := congrArg Fr.c he
    obtain rfl : fl = false := congrArg Fr.fl he
    obtain rfl : rs = [] := congrArg Fr.rs he
    have hok : okN 24 _ = true := ho
    simp only [okN, Bool.and_eq_true, decide_eq_true_eq] at hok
    exact ⟨24, false, rfl, (by simp [tagN]), (by simp [tagN]), (by simp [tagN, knownL]), (fun e => by omega), rd_24 _ id a d t more t1 t2 hok.2 ht⟩
  · subst hk
    obtain rfl := Option.some.inj hm2
    obtain rfl : a = 0 := congrArg Fr.a he
    obtain rfl : b = 0 := congrArg Fr.b he
    obtain rfl : c = 0 := congrArg Fr.c he
    obtain rfl : fl = false := congrArg Fr.fl he
    obtain rfl : d = [] := congrArg Fr.d he
    obtain rfl : rs = [] := congrArg Fr.rs he
    obtain rfl : t = zeros16 := congrArg Fr.t he
    exact ⟨25, false, rfl, (by simp [tagN]), (by simp [tagN]), (by simp [tagN, knownL]), (fun e => by omega), rd_25 _ id more t1⟩
  · subst hk
    obtain rfl := Option.some.inj hm2
    obtain rfl : id = 0 := congrArg Fr.id he
    obtain rfl : a = 0 := congrArg Fr.a he
    obtain rfl : b = 0 := congrArg Fr.b he
    obtain rfl : c = 0 := congrArg Fr.c he
    obtain rfl : fl = false := congrArg Fr.fl he
    obtain rfl : rs = [] := congrArg Fr.rs he
    obtain rfl : t = zeros16 := congrArg Fr.t he
    have hok : okN 26 _ = true := ho
    simp only [okN, decide_eq_true_eq] at hok
    exact ⟨26, false, rfl, (by simp [tagN]), (by simp [tagN]), (by simp [tagN, knownL]), (fun e => by omega), rd_26 _ d more hok⟩
  · subst hk
    obtain rfl := Option.some.inj hm2
    obtain rfl : id = 0 := congrArg Fr.id he
    obtain rfl : a = 0 := congrArg Fr.a he
    obtain rfl : b = 0 := congrArg Fr.b he
    obtain rfl : c = 0 := congrArg Fr.c he
    obtain rfl : fl = false := congrArg Fr.fl he
    obtain rfl : rs = [] := congrArg Fr.rs he
    obtain rfl : t = zeros16 := congrArg Fr.t he
    have hok : okN 27 _ = true := ho
    simp only [okN, decide_eq_true_eq] at hok
    exact ⟨27, false, rfl, (by simp [tagN]), (by simp [tagN]), (by simp [tagN, knownL]), (fun e => by omega), rd_27 _ d more hok⟩
  · subst hk
    obtain rfl := Option.some.inj hm2
    obtain rfl : id = 0 := congrArg Fr.id he
    obtain rfl : b = 0 := congrArg Fr.b he
    obtain rfl : rs = [] := congrArg Fr.rs he
    obtain rfl : t = zeros16 := congrArg Fr.t he
    have hok : okN 28 _ = true := ho
    simp only [okN, Bool.and_eq_true, decide_eq_true_eq, Bool.or_eq_true, Bool.not_eq_true'] at hok
    exact ⟨28, fl, rfl, (by cases fl <;> simp [tagN]), (by cases fl <;> simp [tagN]), (by cases fl <;> simp [tagN, knownL]), (fun e => by omega), rd_28 _ a c fl d more t2 t4 ld (fun e => by subst e; simpa using hok.2)⟩
  · subst hk
    obtain rfl := Option.some.inj hm2
    obtain rfl : id = 0 := congrArg Fr.id he
    obtain rfl : a = 0 := congrArg Fr.a he
    obtain rfl : b = 0 := congrArg Fr.b he
    obtain rfl : c = 0 := congrArg Fr.c he
    obtain rfl : fl = false := congrArg Fr.fl he
    obtain rfl : d = [] := congrArg Fr.d he
    obtain rfl : rs = [] := congrArg Fr.rs he
    obtain rfl : t = zeros16 := congrArg Fr.t he
    exact ⟨30, false, rfl, (by simp [tagN]), (by simp [tagN]), (by simp [tagN, knownL]), (fun e => by omega), rd_30 _ more⟩
theorem put_next {f : Fr} (h : rightF f = true) (ht : f.t.length = 16) (more : List UInt8) (hz : f.k = 0 → f.a = 1200 ∨ more.head? ≠ some 0) : nextF ⟨fputL f ++ more, 0⟩ = (f, ⟨more, 0⟩) := by
  obtain ⟨k, fl, h1, h2, h3, h4, _, h5⟩ := put_read h ht more hz
  exact next_of h h1 h2 h3 h4 h5
end Go.Proofs.YteegonadodmeeaaDoor

namespace Go.Proofs.YteegonadodmeeaaDoor

/-- A reader over bytes that are cut off, beside one over all of them. -/
def Cut (r : List UInt8) (s s' : RS) : Prop := s' = ⟨[], 2⟩ ∨ (s.e = 0 ∧ s'.e = 0 ∧ s.l = s'.l ++ r)
theorem bad_bytes (n : Nat) : RS.bytes ⟨[], 2⟩ n = ([], ⟨[], 2⟩) := by simp [RS.bytes]
theorem bad_byte : RS.byte ⟨[], 2⟩ = (0, ⟨[], 2⟩) := by simp [RS.byte, bad_bytes]
theorem bad_int : RS.int ⟨[], 2⟩ = (0, ⟨[], 2⟩) := by simp [RS.int, RS.fail]
theorem bad_fail (e : Int) : RS.fail ⟨[], 2⟩ e = ⟨[], 2⟩ := by simp [RS.fail]
theorem cut_bytes {r : List UInt8} {s s' : RS} (h : Cut r s s') (n : Nat) : (s'.bytes n).2 = ⟨[], 2⟩ ∨ ((s'.bytes n).1 = (s.bytes n).1 ∧ Cut r (s.bytes n).2 (s'.bytes n).2) := by
  rcases h with rfl | ⟨h1, h2, h3⟩
  · left; rw [bad_bytes]
  · by_cases hn : s'.l.length < n
    · left; unfold RS.bytes; rw [if_neg (by simp [h2]), if_pos hn]
    · right
      have hl : ¬ s.l.length < n := by rw [h3, List.length_append]; omega
      simp only [RS.bytes, h1, h2, ne_eq, not_true, if_false, if_neg hl, if_neg hn]
      refine ⟨?_, .inr ⟨rfl, rfl, ?_⟩⟩
      · rw [h3]; exact (List.take_append_of_le_length (by omega)).symm
      · simp only; rw [h3]; exact List.drop_append_of_le_length (by omega)
theorem cut_byte {r : List UInt8} {s s' : RS} (h : Cut r s s') : s'.byte.2 = ⟨[], 2⟩ ∨ (s'.byte.1 = s.byte.1 ∧ Cut r s.byte.2 s'.byte.2) := by
  rcases cut_bytes h 1 with e | ⟨e1, e2⟩
  · exact .inl e
  · exact .inr ⟨by unfold RS.byte; rw [e1], e2⟩
theorem cut_int {r : List UInt8} {s s' : RS} (h : Cut r s s') : s'.int.2 = ⟨[], 2⟩ ∨ (s'.int.1 = s.int.1 ∧ Cut r s.int.2 s'.int.2) := by
  have h0 := h
  rcases h with rfl | ⟨h1, h2, h3⟩
  · left; rw [bad_int]
  · cases hl : s'.l with
    | nil => left; simp [RS.int, hl, RS.fail, h2]
    | cons c t =>
      have hs : s.l = c :: (t ++ r) := by rw [h3, hl]; rfl
      rcases cut_bytes h0 (lenOf c) with e | ⟨e1, e2⟩
      · left
        simp only [RS.int, hl]
        by_cases hlt : s'.l.length < lenOf c
        · rw [if_pos (by simpa [hl] using hlt)]; simp [RS.fail, h2]
        · rw [if_neg (by simpa [hl] using hlt)]; exact e
      · by_cases hlt : s'.l.length < lenOf c
        · left
          simp only [RS.int, hl]
          rw [if_pos (by simpa [hl] using hlt)]; simp [RS.fail, h2]
        · right
          have hlt2 : ¬ s.l.length < lenOf c := by rw [h3, List.length_append]; omega
          simp only [RS.int, hl, hs]
          rw [if_neg (by simpa [hl] using hlt), if_neg (by simpa [hs] using hlt2)]
          exact ⟨by rw [e1], e2⟩
theorem cut_i {r : List UInt8} {s s' : RS} (h : Cut r s s') : Cut r s.int.2 s'.int.2 := by
  rcases cut_int h with e | ⟨_, e⟩
  · exact .inl e
  · exact e
theorem cut_b {r : List UInt8} {s s' : RS} (h : Cut r s s') (n : Nat) : Cut r (s.bytes n).2 (s'.bytes n).2 := by
  rcases cut_bytes h n with e | ⟨_, e⟩
  · exact .inl e
  · exact e
theorem cut_d {r : List UInt8} {s s' : RS} (h : Cut r s s') : Cut r (s.int.2.bytes s.int.1).2 (s'.int.2.bytes s'.int.1).2 := by
  rcases cut_int h with e | ⟨e1, e2⟩
  · left; rw [e, bad_bytes]
  · rw [e1]; exact cut_b e2 _
theorem cut_c {r : List UInt8} {s s' : RS} (h : Cut r s s') : Cut r (s.byte.2.bytes s.byte.1.toNat).2 (s'.byte.2.bytes s'.byte.1.toNat).2 := by
  rcases cut_byte h with e | ⟨e1, e2⟩
  · left; rw [e, bad_bytes]
  · rw [e1]; exact cut_b e2 _
theorem cut_end {r : List UInt8} {s s' : RS} (h : Cut r s s') (hs : s = ⟨[], 0⟩) (hr : r ≠ []) : s' = ⟨[], 2⟩ := by
  subst hs
  rcases h with e | ⟨_, _, e⟩
  · exact e
  · exact absurd (List.append_eq_nil_iff.1 e.symm).2 hr
theorem fail_ne (s : RS) : (s.fail 3).e ≠ 0 := by
  unfold RS.fail
  split
  · exact (by decide : (3 : Int) ≠ 0)
  · next h => intro e; exact h ⟨e, by decide⟩
theorem cut_gaps {r : List UInt8} (hr : r ≠ []) : ∀ (n : Nat) (out : List (Nat × Nat)) (lo : Nat) (s s' : RS), Cut r s s' → (readGaps n out lo s).2 = ⟨[], 0⟩ → (readGaps n out lo s').2 = ⟨[], 2⟩
  | 0, out, lo, s, s', h, hs => cut_end h hs hr
  | n + 1, out, lo, s, s', h, hs => by
    have hs' : (if s.int.2.int.2.e ≠ 0 ∨ lo < 2 ∨ lo - 2 < s.int.1 ∨ lo - 2 - s.int.1 < s.int.2.int.1 then (out, s.int.2.int.2.fail 3)
      else readGaps n (out ++ [(lo - 2 - s.int.1 - s.int.2.int.1, lo - 2 - s.int.1)]) (lo - 2 - s.int.1 - s.int.2.int.1) s.int.2.int.2).2 = ⟨[], 0⟩ := hs
    by_cases hc : s.int.2.int.2.e ≠ 0 ∨ lo < 2 ∨ lo - 2 < s.int.1 ∨ lo - 2 - s.int.1 < s.int.2.int.1
    · rw [if_pos hc] at hs'
      exact absurd (congrArg RS.e hs') (fail_ne _)
    · rw [if_neg hc] at hs'
      show (if s'.int.2.int.2.e ≠ 0 ∨ lo < 2 ∨ lo - 2 < s'.int.1 ∨ lo - 2 - s'.int.1 < s'.int.2.int.1 then (out, s'.int.2.int.2.fail 3)
        else readGaps n (out ++ [(lo - 2 - s'.int.1 - s'.int.2.int.1, lo - 2 - s'.int.1)]) (lo - 2 - s'.int.1 - s'.int.2.int.1) s'.int.2.int.2).2 = ⟨[], 2⟩
      rcases cut_int h with e | ⟨e1, e2⟩
      · rw [e, bad_int, if_pos (.inl (by decide)), bad_fail]
      · rcases cut_int e2 with e | ⟨f1, f2⟩
        · rw [e, if_pos (.inl (by decide)), bad_fail]
        · rw [e1, f1]
          by_cases he : s'.int.2.int.2.e = 0
          · rw [if_neg (by
              rintro (h | h)
              · exact h he
              · exact hc (.inr h))]
            exact cut_gaps hr n _ _ _ _ f2 hs'
          · rcases f2 with e | ⟨_, e, _⟩
            · rw [e, if_pos (.inl (by decide)), bad_fail]
            · exact absurd e he
theorem cut_ack {r : List UInt8} (hr : r ≠ []) {f : Fr} {s s' : RS} (h : Cut r s s') (hs : (readAckL f s).2 = ⟨[], 0⟩) : (readAckL f s').2 = ⟨[], 2⟩ := by
  unfold readAckL at hs ⊢
  simp only at hs ⊢
  have h4 := cut_i (cut_i (cut_i (cut_i h)))
  by_cases hc : s.int.2.int.2.int.2.int.2.e ≠ 0 ∨ 16 ≤ s.int.2.int.2.int.1 ∨ s.int.1 < s.int.2.int.2.int.2.int.1
  · rw [if_pos hc] at hs
    exact absurd (congrArg RS.e hs) (fail_ne _)
  · rw [if_neg hc] at hs
    rcases cut_int h with e | ⟨a1, a2⟩
    · rw [e, bad_int, bad_int, bad_int, if_pos (.inl (by decide)), bad_fail]
    · rcases cut_int a2 with e | ⟨b1, b2⟩
      · rw [e, bad_int, bad_int, if_pos (.inl (by decide)), bad_fail]
      · rcases cut_int b2 with e | ⟨c1, c2⟩
        · rw [e, bad_int, if_pos (.inl (by decide)), bad_fail]
        · rcases cut_int c2 with e | ⟨d1, d2⟩
          · rw [e, if_pos (.inl (by decide)), bad_fail]
          · by_cases he : s'.int.2.int.2.int.2.int.2.e = 0
            · rw [a1, c1, d1, if_neg (by
                rintro (h | h)
                · exact h he
                · exact hc (.inr h))]
              simp only at hs ⊢
              exact cut_gaps hr _ _ _ _ _ d2 hs
            · rcases d2 with e | ⟨_, e, _⟩
              · rw [e, if_pos (.inl (by decide)), bad_fail]
              · exact absurd e he
theorem cut_stream {r : List UInt8} (hr : r ≠ []) {t : Nat} {f : Fr} {s s' : RS} (ht : t / 2 % 2 = 1) (h : Cut r s s') (hs : (readStreamL t f s).2 = ⟨[], 0⟩) : (readStreamL t f s').2 = ⟨[], 2⟩ := by
  unfold readStreamL at hs ⊢
  simp only [if_pos ht] at hs ⊢
  by_cases h4 : t / 4 % 2 = 1
  · simp only [if_pos h4] at hs ⊢
    exact cut_end (cut_d (cut_i (cut_i h))) hs hr
  · simp only [if_neg h4] at hs ⊢
    exact cut_end (cut_d (cut_i h)) hs hr
theorem cut_readN {r : List UInt8} (hr : r ≠ []) {t k : Nat} {f : Fr} {s s' : RS} (h0 : k ≠ 0) (h8 : k = 8 → t / 2 % 2 = 1) (h : Cut r s s') (hs : (readN t k f s).2 = ⟨[], 0⟩) : (readN t k f s').2 = ⟨[], 2⟩ := by
  unfold readN at hs ⊢
  split at hs
  · exact absurd rfl h0
  · exact cut_ack hr h hs
  · exact cut_end (cut_i (cut_i (cut_i h))) hs hr
  · exact cut_end (cut_i (cut_i h)) hs hr
  · exact cut_end (cut_d (cut_i h)) hs hr
  · exact cut_end (cut_d h) hs hr
  · exact cut_stream hr (h8 rfl) h hs
  · exact cut_end (cut_i h) hs hr
  · exact cut_end (cut_i (cut_i h)) hs hr
  · exact cut_end (cut_i h) hs hr
  · exact cut_end (cut_i h) hs hr
  · exact cut_end (cut_i (cut_i h)) hs hr
  · exact cut_end (cut_i h) hs hr
  · exact cut_end (cut_b (cut_c (cut_i (cut_i h))) 16) hs hr
  · exact cut_end (cut_i h) hs hr
  · exact cut_end (cut_b h 8) hs hr
  · exact cut_end (cut_b h 8) hs hr
  · simp only at hs ⊢
    by_cases hf : f.fl = true
    · simp only [if_pos hf] at hs ⊢
      exact cut_end (cut_d (cut_i h)) hs hr
    · simp only [if_neg hf] at hs ⊢
      exact cut_end (cut_d (cut_i (cut_i h))) hs hr
  · exact cut_end h hs hr
/-- A FRAME THAT IS CUT OFF IS NONE. -/
theorem cut_next {f : Fr} (h : rightF f = true) (ht : f.t.length = 16) (h0 : f.k ≠ 0) {l r : List UInt8} (hr : r ≠ []) (e : fputL f = l ++ r) : nextF ⟨l, 0⟩ = (Fr.zero, ⟨[], 2⟩) := by
  obtain ⟨k, fl, h1, h2, h3, h4, h8, h5⟩ := put_read h ht [] (fun e => absurd e h0)
  obtain ⟨m, hm, _⟩ := right_parts h
  rw [h1] at hm
  have e1 : fputL f = UInt8.ofNat (tagN f) :: bodyN k f := by
    unfold fputL
    rw [if_pos h, h1]
    rfl
  have hC : Cut r ⟨fputL f, 0⟩ ⟨l, 0⟩ := .inr ⟨rfl, rfl, e⟩
  rw [List.append_nil] at h5
  unfold nextF
  rcases cut_int hC with e2 | ⟨e2, e3⟩
  · rw [e2, if_pos (by decide), bad_fail]
  · rw [e1, tag_put _ _ h2] at e2 e3
    simp only at e2 e3
    have h5' : (readN (tagN f) k (Fr.ofKind (k : Int) fl) ⟨bodyN k f, 0⟩).2 = ⟨[], 0⟩ := congrArg Prod.snd h5
    have e4 := cut_readN hr (by omega) h8 e3 h5'
    by_cases he : (RS.int ⟨l, 0⟩).2.e = 0
    · rw [if_neg (by simp [he]), e2, h4]
      simp only
      rw [hm]
      simp only [Option.isNone_some, Bool.false_eq_true, if_false]
      rw [show ((k : Int)).toNat = k from rfl]
      unfold nextK three
      rw [if_neg h3, e4, if_neg (by simp), bad_fail]
    · rcases e3 with e3 | ⟨_, e3, _⟩
      · rw [e3, if_pos (by decide), bad_fail]
      · exact absurd e3 he
end Go.Proofs.YteegonadodmeeaaDoor

namespace Go.Proofs.YteegonadodmeeaaDoor

theorem put_head {f : Fr} (h : rightF f = true) (ht : f.t.length = 16) (hk : f.k ≠ 0) (more : List UInt8) : (fputL f ++ more).head? ≠ some 0 ∧ fputL f ≠ [] := by
  obtain ⟨k, fl, h1, h2, h3, h4, h8, h5⟩ := put_read h ht [] (fun e => absurd e hk)
  have e1 : fputL f = UInt8.ofNat (tagN f) :: bodyN k f := by
    unfold fputL
    rw [if_pos h, h1]
    rfl
  have h0 : tagN f ≠ 0 := by
    unfold tagN
    split
    · omega
    · omega
  rw [e1]
  refine ⟨?_, by simp⟩
  simp only [List.cons_append, List.head?_cons, ne_eq, Option.some.injEq]
  intro e
  have := congrArg UInt8.toNat e
  rw [UInt8.toNat_ofNat_of_lt' (by show _ < 256; omega)] at this
  exact h0 this
theorem put_ne {f : Fr} (h : rightF f = true) : fputL f ≠ [] := by
  unfold fputL
  rw [if_pos h]
  simp
theorem parse_many : ∀ (l : List Fr) (n : Nat) (acc : List Fr), (∀ f ∈ l, rightF f = true ∧ f.t.length = 16) → (∀ f ∈ l.tail, f.k ≠ 0) → l.length + acc.length ≤ 64 → l.length ≤ n → (l ≠ [] ∨ acc ≠ []) →
    parseN n acc ⟨l.flatMap fputL, 0⟩ = (acc ++ l, 0)
  | [], n, acc, _, _, _, _, h => by
    rw [parse_nil (by rfl)]
    unfold finL
    have : acc ≠ [] := by simpa using h
    rw [if_neg this]
    simp
  | f :: l, 0, acc, _, _, _, h, _ => by simp at h
  | f :: l, n + 1, acc, hr, hz, h64, hn, _ => by
    obtain ⟨hf, ht⟩ := hr f (by simp)
    have e : (f :: l).flatMap fputL = fputL f ++ l.flatMap fputL := by simp
    have hnx : nextF ⟨fputL f ++ l.flatMap fputL, 0⟩ = (f, ⟨l.flatMap fputL, 0⟩) := by
      refine put_next hf ht _ (fun _ => .inr ?_)
      cases l with
      | nil => simp
      | cons g m =>
        obtain ⟨hg, hgt⟩ := hr g (by simp)
        have := (put_head hg hgt (hz g (by simp)) (m.flatMap fputL)).1
        simpa using this
    rw [e, parse_step (by simp [put_ne hf]) hnx, show mostL acc.length ⟨l.flatMap fputL, 0⟩ = ⟨l.flatMap fputL, 0⟩ by
      unfold mostL
      rw [if_neg (by simp at h64; omega)]]
    rw [parse_many l n (acc ++ [f]) (fun g hg => hr g (by simp [hg])) (fun g hg => hz g (by simp only [List.tail_cons]; exact List.mem_of_mem_tail hg)) (by simp at h64 ⊢; omega) (by simpa using hn) (.inr (by simp))]
    simp
theorem parse_over : ∀ (l : List Fr) (n : Nat) (acc : List Fr), (∀ f ∈ l, rightF f = true ∧ f.t.length = 16) → (∀ f ∈ l.tail, f.k ≠ 0) → acc.length ≤ 64 → 64 < l.length + acc.length → 66 ≤ n + acc.length →
    parseN n acc ⟨l.flatMap fputL, 0⟩ = ([], 3)
  | [], n, acc, _, _, h1, h2, _ => by simp at h2; omega
  | f :: l, 0, acc, _, _, h1, h2, h3 => by omega
  | f :: l, n + 1, acc, hr, hz, h1, h2, h3 => by
    obtain ⟨hf, ht⟩ := hr f (by simp)
    have e : (f :: l).flatMap fputL = fputL f ++ l.flatMap fputL := by simp
    have hnx : nextF ⟨fputL f ++ l.flatMap fputL, 0⟩ = (f, ⟨l.flatMap fputL, 0⟩) := by
      refine put_next hf ht _ (fun _ => .inr ?_)
      cases l with
      | nil => simp
      | cons g m =>
        obtain ⟨hg, hgt⟩ := hr g (by simp)
        have := (put_head hg hgt (hz g (by simp)) (m.flatMap fputL)).1
        simpa using this
    rw [e, parse_step (by simp [put_ne hf]) hnx]
    by_cases h64 : acc.length = 64
    · have e2 : mostL acc.length ⟨l.flatMap fputL, 0⟩ = ⟨[], 3⟩ := by
        unfold mostL
        rw [if_pos h64]
        simp [RS.fail]
      rw [e2, parse_nil rfl]
      simp [finL]
    · rw [show mostL acc.length ⟨l.flatMap fputL, 0⟩ = ⟨l.flatMap fputL, 0⟩ by
        unfold mostL
        rw [if_neg h64]]
      exact parse_over l n (acc ++ [f]) (fun g hg => hr g (by simp [hg])) (fun g hg => hz g (by simp only [List.tail_cons]; exact List.mem_of_mem_tail hg)) (by simp; omega) (by simp at h2 ⊢; omega) (by simp; omega)
theorem parse_one {f : Fr} (h : rightF f = true) (ht : f.t.length = 16) : parse66 (fputL f) = ([f], 0) := by
  have := parse_many [f] 66 [] (fun g hg => by rw [List.mem_singleton.1 hg]; exact ⟨h, ht⟩) (by simp) (by simp) (by simp) (.inl (by simp))
  simpa [parse66] using this
theorem parse_two {f g : Fr} (hf : rightF f = true) (ht : f.t.length = 16) (hg : rightF g = true) (hgt : g.t.length = 16) (h : ¬ (f.k = 0 ∧ g.k = 0)) : parse66 (fputL f ++ fputL g) = ([f, g], 0) := by
  have n1 : nextF ⟨fputL f ++ fputL g, 0⟩ = (f, ⟨fputL g, 0⟩) := put_next hf ht _ (fun e => .inr (by
    have := (put_head hg hgt (fun e2 => h ⟨e, e2⟩) []).1
    simpa using this))
  have n2 : nextF ⟨fputL g, 0⟩ = (g, ⟨[], 0⟩) := by
    have := put_next hg hgt [] (fun _ => .inr (by simp))
    simpa using this
  unfold parse66
  rw [parse_step (n := 65) (by simp [put_ne hf]) n1, show mostL ([] : List Fr).length ⟨fputL g, 0⟩ = ⟨fputL g, 0⟩ from rfl, parse_step (n := 64) (by simpa using put_ne hg) n2, show mostL ([] ++ [f] : List Fr).length ⟨[], 0⟩ = ⟨[], 0⟩ from rfl, parse_nil rfl]
  rfl
theorem fput_inj {f g : Fr} (hf : rightF f = true) (ht : f.t.length = 16) (hg : rightF g = true) (hgt : g.t.length = 16) : decide (fputL f = fputL g) = sameF f g := by
  unfold sameF
  rw [Bool.eq_iff_iff]
  simp only [decide_eq_true_eq]
  constructor
  · intro e
    have h1 := put_next hf ht [] (fun _ => .inr (by simp))
    have h2 := put_next hg hgt [] (fun _ => .inr (by simp))
    rw [e, h2] at h1
    exact (congrArg Prod.fst h1).symm
  · rintro rfl; rfl
theorem cut_parse {f : Fr} (h : rightF f = true) (ht : f.t.length = 16) (h0 : f.k ≠ 0) {l r : List UInt8} (hr : r ≠ []) (e : fputL f = l ++ r) : (parse66 l).1 = [] ∧ ((parse66 l).2 = 2 ∨ (parse66 l).2 = 3) := by
  cases l with
  | nil => exact ⟨rfl, .inr rfl⟩
  | cons c m =>
    have hn := cut_next h ht h0 hr e
    have : parse66 (c :: m) = ([], 2) := by
      unfold parse66
      rw [parse_step (n := 65) (by simp) hn]
      show parseN 65 ([] ++ [Fr.zero]) ⟨[], 2⟩ = _
      rw [parse_nil rfl]
      rfl
    rw [this]
    exact ⟨rfl, .inl rfl⟩
theorem int_err {s : RS} (h : s.e ≠ 0) : s.int.2.e ≠ 0 := by
  unfold RS.int
  split
  · unfold RS.fail
    split
    · rename_i h1; exact absurd h1.1 h
    · exact h
  · split
    · unfold RS.fail
      split
      · rename_i h1; exact absurd h1.1 h
      · exact h
    · simp only
      unfold RS.bytes
      rw [if_pos h]
      exact h
theorem most_err {s : RS} (h : s.e ≠ 0) (n : Nat) : (mostL n s).e ≠ 0 := by
  unfold mostL RS.fail
  split
  · split
    · rename_i h1; exact absurd h1.1 h
    · exact h
  · exact h
theorem finL_err {s : RS} (h : s.e ≠ 0) (acc : List Fr) : (finL acc s).2 ≠ 0 := by
  have hc : (if acc = [] then s.fail 3 else s).e ≠ 0 := by
    split
    · exact fail_ne s
    · exact h
  unfold finL
  rw [if_pos hc]
  exact hc
theorem parseN_err : ∀ (n : Nat) (acc : List Fr) (s : RS), s.e ≠ 0 → (parseN n acc s).2 ≠ 0
  | 0, acc, s, h => finL_err h acc
  | n + 1, acc, s, h => by
    show (if s.l = [] then finL acc s else parseN n (acc ++ [(nextF s).1]) (mostL acc.length (nextF s).2)).2 ≠ 0
    split
    · exact finL_err h acc
    · refine parseN_err n _ _ (most_err ?_ _)
      unfold nextF
      rw [if_pos (int_err h)]
      exact fail_ne _
theorem nextF_ok (s : RS) : rightF (nextF s).1 = true ∨ (nextF s).2.e ≠ 0 := by
  unfold nextF
  split
  · exact .inr (fail_ne _)
  · split
    · exact .inr (fail_ne _)
    · unfold nextK
      split
      · next h => exact .inl h.2
      · exact .inr (fail_ne _)
theorem finL_ok {acc : List Fr} {s : RS} (h : (finL acc s).2 = 0) : (finL acc s).1 = acc := by
  unfold finL at h ⊢
  by_cases hc : (if acc = [] then s.fail 3 else s).e ≠ 0
  · rw [if_pos hc] at h; exact absurd h hc
  · rw [if_neg hc]
theorem parseN_ok : ∀ (n : Nat) (acc : List Fr) (s : RS), (∀ f ∈ acc, rightF f = true) → (parseN n acc s).2 = 0 → ∀ f ∈ (parseN n acc s).1, rightF f = true
  | 0, acc, s, h, h0 => fun f hf => h f (by
    have h0' : (finL acc s).2 = 0 := h0
    have hf' : f ∈ (finL acc s).1 := hf
    rwa [finL_ok h0'] at hf')
  | n + 1, acc, s, h, h0 => by
    intro f hf
    have h0' : (if s.l = [] then finL acc s else parseN n (acc ++ [(nextF s).1]) (mostL acc.length (nextF s).2)).2 = 0 := h0
    have hf' : f ∈ (if s.l = [] then finL acc s else parseN n (acc ++ [(nextF s).1]) (mostL acc.length (nextF s).2)).1 := hf
    by_cases hl : s.l = []
    · rw [if_pos hl] at h0' hf'
      rw [finL_ok h0'] at hf'
      exact h f hf'
    · rw [if_neg hl] at h0' hf'
      refine parseN_ok n _ _ (fun g hg => ?_) h0' f hf'
      rcases List.mem_append.1 hg with hg | hg
      · exact h g hg
      · rw [List.mem_singleton.1 hg]
        rcases nextF_ok s with h1 | h1
        · exact h1
        · exact absurd h0' (parseN_err n _ _ (most_err h1 _))
theorem parse_ok {b : List UInt8} (h : (parse66 b).2 = 0) : ∀ f ∈ (parse66 b).1, rightF f = true := parseN_ok 66 [] _ (by simp) h
theorem finL_none {acc : List Fr} {s : RS} (h : (finL acc s).2 ≠ 0) : (finL acc s).1 = [] := by
  unfold finL at h ⊢
  by_cases hc : (if acc = [] then s.fail 3 else s).e ≠ 0
  · rw [if_pos hc]
  · rw [if_neg hc] at h; exact absurd rfl h
theorem parseN_none : ∀ (n : Nat) (acc : List Fr) (s : RS), (parseN n acc s).2 ≠ 0 → (parseN n acc s).1 = []
  | 0, _, _, h => finL_none h
  | n + 1, acc, s, h => by
    have h' : (if s.l = [] then finL acc s else parseN n (acc ++ [(nextF s).1]) (mostL acc.length (nextF s).2)).2 ≠ 0 := h
    show (if s.l = [] then finL acc s else parseN n (acc ++ [(nextF s).1]) (mostL acc.length (nextF s).2)).1 = []
    by_cases hl : s.l = []
    · rw [if_pos hl] at h' ⊢; exact finL_none h'
    · rw [if_neg hl] at h' ⊢; exact parseN_none n _ _ h'
/-- Paddings of bytes 0. -/
def padF (a : Nat) : Fr := ⟨0, 0, a, 0, 0, false, [], [], zeros16⟩
def zl : Nat → Nat → List Fr
  | 0, _ => []
  | m + 1, k => if k = 0 then [] else padF (min k 1200) :: zl m (k - min k 1200)
theorem pad_right {a : Nat} (h1 : 1 ≤ a) (h2 : a ≤ 1200) : rightF (padF a) = true := by
  have e : rightF (padF a) = (topB (padF a) && sameF (padF a) (onlyF ⟨false, true, false, false, false, false, false, false⟩ (padF a)) && okN 0 (padF a)) := rfl
  rw [e]
  have e1 : okN 0 (padF a) = true := by simp [okN, padF, h1, h2]
  have e2 : topB (padF a) = true := by
    have ha : a ≤ topN := by unfold topN; omega
    have h0 : (0 : Nat) ≤ topN := Nat.zero_le _
    show (decide (0 ≤ topN) && decide (a ≤ topN) && decide (0 ≤ topN) && decide (0 ≤ topN)) = true
    rw [decide_eq_true ha, decide_eq_true h0]
    rfl
  have e3 : sameF (padF a) (onlyF ⟨false, true, false, false, false, false, false, false⟩ (padF a)) = true := by simp [sameF, onlyF, padF]
  rw [e1, e2, e3]
  rfl
theorem pad_put {a : Nat} (h1 : 1 ≤ a) (h2 : a ≤ 1200) : fputL (padF a) = List.replicate a 0 := by
  unfold fputL
  rw [if_pos (pad_right h1 h2)]
  show UInt8.ofNat 0 :: List.replicate (a - 1) 0 = _
  obtain ⟨m, rfl⟩ : ∃ m, a = m + 1 := ⟨a - 1, by omega⟩
  rw [Nat.add_sub_cancel, List.replicate_succ]
  rfl
theorem zeros_parse : ∀ (m k n : Nat) (acc : List Fr), k ≤ 1200 * m → m + acc.length ≤ 64 → m ≤ n → (k ≠ 0 ∨ acc ≠ []) → parseN n acc ⟨List.replicate k 0, 0⟩ = (acc ++ zl m k, 0)
  | 0, k, n, acc, hk, _, _, h => by
    obtain rfl : k = 0 := by omega
    rw [parse_nil (by rfl)]
    unfold finL
    have : acc ≠ [] := by simpa using h
    rw [if_neg this]
    simp [zl]
  | m + 1, k, n, acc, hk, h64, hn, h => by
    by_cases h0 : k = 0
    · subst h0
      rw [parse_nil (by rfl)]
      unfold finL
      have : acc ≠ [] := by simpa using h
      rw [if_neg this]
      simp [zl]
    · obtain ⟨n, rfl⟩ : ∃ n', n = n' + 1 := ⟨n - 1, by omega⟩
      have e : List.replicate k (0 : UInt8) = fputL (padF (min k 1200)) ++ List.replicate (k - min k 1200) 0 := by
        rw [pad_put (by omega) (by omega), List.replicate_append_replicate]
        congr 1
        omega
      have hnx : nextF ⟨List.replicate k 0, 0⟩ = (padF (min k 1200), ⟨List.replicate (k - min k 1200) 0, 0⟩) := by
        rw [e]
        refine put_next (pad_right (by omega) (by omega)) rfl _ (fun _ => ?_)
        by_cases h12 : k ≤ 1200
        · right
          rw [show k - min k 1200 = 0 by omega]
          simp
        · left
          show min k 1200 = 1200
          omega
      rw [parse_step (by simp [h0]) hnx, show mostL acc.length ⟨List.replicate (k - min k 1200) 0, 0⟩ = ⟨List.replicate (k - min k 1200) 0, 0⟩ by
        unfold mostL
        rw [if_neg (by omega)]]
      rw [zeros_parse m (k - min k 1200) n _ (by omega) (by simp; omega) (by omega) (.inr (by simp))]
      simp [zl, h0]
theorem parse_zeros {k : Nat} (h1 : 1 ≤ k) (h2 : k ≤ 4000) : parse66 (List.replicate k 0) = (zl 4 k, 0) := by
  have := zeros_parse 4 k 66 [] (by omega) (by simp) (by omega) (.inl (by omega))
  simpa [parse66] using this
theorem zl_mem : ∀ (m k : Nat) (f : Fr), f ∈ zl m k → f.k = 0 ∧ f.a ≤ 1200
  | 0, _, f, h => by simp [zl] at h
  | m + 1, k, f, h => by
    unfold zl at h
    split at h
    · simp at h
    · rcases List.mem_cons.1 h with rfl | h
      · exact ⟨rfl, Nat.min_le_right _ _⟩
      · exact zl_mem m _ f h
def sumA (l : List Fr) : Nat := (l.map Fr.a).sum
theorem zl_sum : ∀ (m k : Nat), k ≤ 1200 * m → sumA (zl m k) = k ∧ (zl m k).length = (k + 1199) / 1200
  | 0, k, h => by
    obtain rfl : k = 0 := by omega
    simp [zl, sumA]
  | m + 1, k, h => by
    unfold zl
    split
    · rename_i h0
      subst h0
      simp [sumA]
    · obtain ⟨h1, h2⟩ := zl_sum m (k - min k 1200) (by omega)
      refine ⟨?_, ?_⟩
      · have : sumA (padF (min k 1200) :: zl m (k - min k 1200)) = min k 1200 + sumA (zl m (k - min k 1200)) := by simp [sumA, padF]
        rw [this, h1]
        omega
      · rw [List.length_cons, h2]
        omega
end Go.Proofs.YteegonadodmeeaaDoor
