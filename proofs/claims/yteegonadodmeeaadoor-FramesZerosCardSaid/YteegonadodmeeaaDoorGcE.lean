/- Plain laws: frames one behind the other are parsed one by one; bytes 0 are paddings. No program in sight. -/
import Derived.Test.YteegonadodmeeaaDoorGcB
import Derived.Test.YteegonadodmeeaaDoorGbB
namespace Go.Proofs.YteegonadodmeeaaDoor

theorem put_head {f : Fr} (h : rightF f = true) (ht : f.t.length = 16) (hk : f.k ≠ 0) (more : List UInt8) : (fputL f ++ more).head? ≠ some 0 ∧ fputL f ≠ [] := by
  obtain ⟨k, fl, h1, h2, h3, h4, h8, h5⟩ := put_read h ht [] (fun e => absurd e hk)
  have e1 : fputL f = UInt8.ofNat (tagN f) :: bodyN k f := by
    unfold fputL
    rw [if_pos h, h1]
    rfl
  have h0 : tagN f ≠ 0 := by
    unfold tagN
    split
    · omega
    · omega
  rw [e1]
  refine ⟨?_, by simp⟩
  simp only [List.cons_append, List.head?_cons, ne_eq, Option.some.injEq]
  intro e
  have := congrArg UInt8.toNat e
  rw [UInt8.toNat_ofNat_of_lt' (by show _ < 256; omega)] at this
  exact h0 this
theorem put_ne {f : Fr} (h : rightF f = true) : fputL f ≠ [] := by
  unfold fputL
  rw [if_pos h]
  simp
theorem parse_many : ∀ (l : List Fr) (n : Nat) (acc : List Fr), (∀ f ∈ l, rightF f = true ∧ f.t.length = 16) → (∀ f ∈ l.tail, f.k ≠ 0) → l.length + acc.length ≤ 64 → l.length ≤ n → (l ≠ [] ∨ acc ≠ []) →
    parseN n acc ⟨l.flatMap fputL, 0⟩ = (acc ++ l, 0)
  | [], n, acc, _, _, _, _, h => by
    rw [parse_nil (by rfl)]
    unfold finL
    have : acc ≠ [] := by simpa using h
    rw [if_neg this]
    simp
  | f :: l, 0, acc, _, _, _, h, _ => by simp at h
  | f :: l, n + 1, acc, hr, hz, h64, hn, _ => by
    obtain ⟨hf, ht⟩ := hr f (by simp)
    have e : (f :: l).flatMap fputL = fputL f ++ l.flatMap fputL := by simp
    have hnx : nextF ⟨fputL f ++ l.flatMap fputL, 0⟩ = (f, ⟨l.flatMap fputL, 0⟩) := by
      refine put_next hf ht _ (fun _ => .inr ?_)
      cases l with
      | nil => simp
      | cons g m =>
        obtain ⟨hg, hgt⟩ := hr g (by simp)
        have := (put_head hg hgt (hz g (by simp)) (m.flatMap fputL)).1
        simpa using this
    rw [e, parse_step (by simp [put_ne hf]) hnx, show mostL acc.length ⟨l.flatMap fputL, 0⟩ = ⟨l.flatMap fputL, 0⟩ by
      unfold mostL
      rw [if_neg (by simp at h64; omega)]]
    rw [parse_many l n (acc ++ [f]) (fun g hg => hr g (by simp [hg])) (fun g hg => hz g (by simp only [List.tail_cons]; exact List.mem_of_mem_tail hg)) (by simp at h64 ⊢; omega) (by simpa using hn) (.inr (by simp))]
    simp
theorem parse_over : ∀ (l : List Fr) (n : Nat) (acc : List Fr), (∀ f ∈ l, rightF f = true ∧ f.t.length = 16) → (∀ f ∈ l.tail, f.k ≠ 0) → acc.length ≤ 64 → 64 < l.length + acc.length → 66 ≤ n + acc.length →
    parseN n acc ⟨l.flatMap fputL, 0⟩ = ([], 3)
  | [], n, acc, _, _, h1, h2, _ => by simp at h2; omega
  | f :: l, 0, acc, _, _, h1, h2, h3 => by omega
  | f :: l, n + 1, acc, hr, hz, h1, h2, h3 => by
    obtain ⟨hf, ht⟩ := hr f (by simp)
    have e : (f :: l).flatMap fputL = fputL f ++ l.flatMap fputL := by simp
    have hnx : nextF ⟨fputL f ++ l.flatMap fputL, 0⟩ = (f, ⟨l.flatMap fputL, 0⟩) := by
      refine put_next hf ht _ (fun _ => .inr ?_)
      cases l with
      | nil => simp
      | cons g m =>
        obtain ⟨hg, hgt⟩ := hr g (by simp)
        have := (put_head hg hgt (hz g (by simp)) (m.flatMap fputL)).1
        simpa using this
    rw [e, parse_step (by simp [put_ne hf]) hnx]
    by_cases h64 : acc.length = 64
    · have e2 : mostL acc.length ⟨l.flatMap fputL, 0⟩ = ⟨[], 3⟩ := by
        unfold mostL
        rw [if_pos h64]
        simp [RS.fail]
      rw [e2, parse_nil rfl]
      simp [finL]
    · rw [show mostL acc.length ⟨l.flatMap fputL, 0⟩ = ⟨l.flatMap fputL, 0⟩ by
        unfold mostL
        rw [if_neg h64]]
      exact parse_over l n (acc ++ [f]) (fun g hg => hr g (by simp [hg])) (fun g hg => hz g (by simp only [List.tail_cons]; exact List.mem_of_mem_tail hg)) (by simp; omega) (by simp at h2 ⊢; omega) (by simp; omega)
theorem parse_one {f : Fr} (h : rightF f = true) (ht : f.t.length = 16) : parse66 (fputL f) = ([f], 0) := by
  have := parse_many [f] 66 [] (fun g hg => by rw [List.mem_singleton.1 hg]; exact ⟨h, ht⟩) (by simp) (by simp) (by simp) (.inl (by simp))
  simpa [parse66] using this
theorem parse_two {f g : Fr} (hf : rightF f = true) (ht : f.t.length = 16) (hg : rightF g = true) (hgt : g.t.length = 16) (h : ¬ (f.k = 0 ∧ g.k = 0)) : parse66 (fputL f ++ fputL g) = ([f, g], 0) := by
  have n1 : nextF ⟨fputL f ++ fputL g, 0⟩ = (f, ⟨fputL g, 0⟩) := put_next hf ht _ (fun e => .inr (by
    have := (put_head hg hgt (fun e2 => h ⟨e, e2⟩) []).1
    simpa using this))
  have n2 : nextF ⟨fputL g, 0⟩ = (g, ⟨[], 0⟩) := by
    have := put_next hg hgt [] (fun _ => .inr (by simp))
    simpa using this
  unfold parse66
  rw [parse_step (n := 65) (by simp [put_ne hf]) n1, show mostL ([] : List Fr).length ⟨fputL g, 0⟩ = ⟨fputL g, 0⟩ from rfl, parse_step (n := 64) (by simpa using put_ne hg) n2, show mostL ([] ++ [f] : List Fr).length ⟨[], 0⟩ = ⟨[], 0⟩ from rfl, parse_nil rfl]
  rfl
theorem fput_inj {f g : Fr} (hf : rightF f = true) (ht : f.t.length = 16) (hg : rightF g = true) (hgt : g.t.length = 16) : decide (fputL f = fputL g) = sameF f g := by
  unfold sameF
  rw [Bool.eq_iff_iff]
  simp only [decide_eq_true_eq]
  constructor
  · intro e
    have h1 := put_next hf ht [] (fun _ => .inr (by simp))
    have h2 := put_next hg hgt [] (fun _ => .inr (by simp))
    rw [e, h2] at h1
    exact (congrArg Prod.fst h1).symm
  · rintro rfl; rfl
theorem cut_parse {f : Fr} (h : rightF f = true) (ht : f.t.length = 16) (h0 : f.k ≠ 0) {l r : List UInt8} (hr : r ≠ []) (e : fputL f = l ++ r) : (parse66 l).1 = [] ∧ ((parse66 l).2 = 2 ∨ (parse66 l).2 = 3) := by
  cases l with
  | nil => exact ⟨rfl, .inr rfl⟩
  | cons c m =>
    have hn := cut_next h ht h0 hr e
    have : parse66 (c :: m) = ([], 2) := by
      unfold parse66
      rw [parse_step (n := 65) (by simp) hn]
      show parseN 65 ([] ++ [Fr.zero]) ⟨[], 2⟩ = _
      rw [parse_nil rfl]
      rfl
    rw [this]
    exact ⟨rfl, .inl rfl⟩
theorem int_err {s : RS} (h : s.e ≠ 0) : s.int.2.e ≠ 0 := by
  unfold RS.int
  split
  · unfold RS.fail
    split
    · rename_i h1; exact absurd h1.1 h
    · exact h
  · split
    · unfold RS.fail
      split
      · rename_i h1; exact absurd h1.1 h
      · exact h
    · simp only
      unfold RS.bytes
      rw [if_pos h]
      exact h
theorem most_err {s : RS} (h : s.e ≠ 0) (n : Nat) : (mostL n s).e ≠ 0 := by
  unfold mostL RS.fail
  split
  · split
    · rename_i h1; exact absurd h1.1 h
    · exact h
  · exact h
theorem finL_err {s : RS} (h : s.e ≠ 0) (acc : List Fr) : (finL acc s).2 ≠ 0 := by
  have hc : (if acc = [] then s.fail 3 else s).e ≠ 0 := by
    split
    · exact fail_ne s
    · exact h
  unfold finL
  rw [if_pos hc]
  exact hc
theorem parseN_err : ∀ (n : Nat) (acc : List Fr) (s : RS), s.e ≠ 0 → (parseN n acc s).2 ≠ 0
  | 0, acc, s, h => finL_err h acc
  | n + 1, acc, s, h => by
    show (if s.l = [] then finL acc s else parseN n (acc ++ [(nextF s).1]) (mostL acc.length (nextF s).2)).2 ≠ 0
    split
    · exact finL_err h acc
    · refine parseN_err n _ _ (most_err ?_ _)
      unfold nextF
      rw [if_pos (int_err h)]
      exact fail_ne _
theorem nextF_ok (s : RS) : rightF (nextF s).1 = true ∨ (nextF s).2.e ≠ 0 := by
  unfold nextF
  split
  · exact .inr (fail_ne _)
  · split
    · exact .inr (fail_ne _)
    · unfold nextK
      split
      · next h => exact .inl h.2
      · exact .inr (fail_ne _)
theorem finL_ok {acc : List Fr} {s : RS} (h : (finL acc s).2 = 0) : (finL acc s).1 = acc := by
  unfold finL at h ⊢
  by_cases hc : (if acc = [] then s.fail 3 else s).e ≠ 0
  · rw [if_pos hc] at h; exact absurd h hc
  · rw [if_neg hc]
theorem parseN_ok : ∀ (n : Nat) (acc : List Fr) (s : RS), (∀ f ∈ acc, rightF f = true) → (parseN n acc s).2 = 0 → ∀ f ∈ (parseN n acc s).1, rightF f = true
  | 0, acc, s, h, h0 => fun f hf => h f (by
    have h0' : (finL acc s).2 = 0 := h0
    have hf' : f ∈ (finL acc s).1 := hf
    rwa [finL_ok h0'] at hf')
  | n + 1, acc, s, h, h0 => by
    intro f hf
    have h0' : (if s.l = [] then finL acc s else parseN n (acc ++ [(nextF s).1]) (mostL acc.length (nextF s).2)).2 = 0 := h0
    have hf' : f ∈ (if s.l = [] then finL acc s else parseN n (acc ++ [(nextF s).1]) (mostL acc.length (nextF s).2)).1 := hf
    by_cases hl : s.l = []
    · rw [if_pos hl] at h0' hf'
      rw [finL_ok h0'] at hf'
      exact h f hf'
    · rw [if_neg hl] at h0' hf'
      refine parseN_ok n _ _ (fun g hg => ?_) h0' f hf'
      rcases List.mem_append.1 hg with hg | hg
      · exact h g hg
      · rw [List.mem_singleton.1 hg]
        rcases nextF_ok s with h1 | h1
        · exact h1
        · exact absurd h0' (parseN_err n _ _ (most_err h1 _))
theorem parse_ok {b : List UInt8} (h : (parse66 b).2 = 0) : ∀ f ∈ (parse66 b).1, rightF f = true := parseN_ok 66 [] _ (by simp) h
theorem finL_none {acc : List Fr} {s : RS} (h : (finL acc s).2 ≠ 0) : (finL acc s).1 = [] := by
  unfold finL at h ⊢
  by_cases hc : (if acc = [] then s.fail 3 else s).e ≠ 0
  · rw [if_pos hc]
  · rw [if_neg hc] at h; exact absurd rfl h
theorem parseN_none : ∀ (n : Nat) (acc : List Fr) (s : RS), (parseN n acc s).2 ≠ 0 → (parseN n acc s).1 = []
  | 0, _, _, h => finL_none h
  | n + 1, acc, s, h => by
    have h' : (if s.l = [] then finL acc s else parseN n (acc ++ [(nextF s).1]) (mostL acc.length (nextF s).2)).2 ≠ 0 := h
    show (if s.l = [] then finL acc s else parseN n (acc ++ [(nextF s).1]) (mostL acc.length (nextF s).2)).1 = []
    by_cases hl : s.l = []
    · rw [if_pos hl] at h' ⊢; exact finL_none h'
    · rw [if_neg hl] at h' ⊢; exact parseN_none n _ _ h'
/-- Paddings of bytes 0. -/
def padF (a : Nat) : Fr := ⟨0, 0, a, 0, 0, false, [], [], zeros16⟩
def zl : Nat → Nat → List Fr
  | 0, _ => []
  | m + 1, k => if k = 0 then [] else padF (min k 1200) :: zl m (k - min k 1200)
theorem pad_right {a : Nat} (h1 : 1 ≤ a) (h2 : a ≤ 1200) : rightF (padF a) = true := by
  have e : rightF (padF a) = (topB (padF a) && sameF (padF a) (onlyF ⟨false, true, false, false, false, false, false, false⟩ (padF a)) && okN 0 (padF a)) := rfl
  rw [e]
  have e1 : okN 0 (padF a) = true := by simp [okN, padF, h1, h2]
  have e2 : topB (padF a) = true := by
    have ha : a ≤ topN := by unfold topN; omega
    have h0 : (0 : Nat) ≤ topN := Nat.zero_le _
    show (decide (0 ≤ topN) && decide (a ≤ topN) && decide (0 ≤ topN) && decide (0 ≤ topN)) = true
    rw [decide_eq_true ha, decide_eq_true h0]
    rfl
  have e3 : sameF (padF a) (onlyF ⟨false, true, false, false, false, false, false, false⟩ (padF a)) = true := by simp [sameF, onlyF, padF]
  rw [e1, e2, e3]
  rfl
theorem pad_put {a : Nat} (h1 : 1 ≤ a) (h2 : a ≤ 1200) : fputL (padF a) = List.replicate a 0 := by
  unfold fputL
  rw [if_pos (pad_right h1 h2)]
  show UInt8.ofNat 0 :: List.replicate (a - 1) 0 = _
  obtain ⟨m, rfl⟩ : ∃ m, a = m + 1 := ⟨a - 1, by omega⟩
  rw [Nat.add_sub_cancel, List.replicate_succ]
  rfl
theorem zeros_parse : ∀ (m k n : Nat) (acc : List Fr), k ≤ 1200 * m → m + acc.length ≤ 64 → m ≤ n → (k ≠ 0 ∨ acc ≠ []) → parseN n acc ⟨List.replicate k 0, 0⟩ = (acc ++ zl m k, 0)
  | 0, k, n, acc, hk, _, _, h => by
    obtain rfl : k = 0 := by omega
    rw [parse_nil (by rfl)]
    unfold finL
    have : acc ≠ [] := by simpa using h
    rw [if_neg this]
    simp [zl]
  | m + 1, k, n, acc, hk, h64, hn, h => by
    by_cases h0 : k = 0
    · subst h0
      rw [parse_nil (by rfl)]
      unfold finL
      have : acc ≠ [] := by simpa using h
      rw [if_neg this]
      simp [zl]
    · obtain ⟨n, rfl⟩ : ∃ n', n = n' + 1 := ⟨n - 1, by omega⟩
      have e : List.replicate k (0 : UInt8) = fputL (padF (min k 1200)) ++ List.replicate (k - min k 1200) 0 := by
        rw [pad_put (by omega) (by omega), List.replicate_append_replicate]
        congr 1
        omega
      have hnx : nextF ⟨List.replicate k 0, 0⟩ = (padF (min k 1200), ⟨List.replicate (k - min k 1200) 0, 0⟩) := by
        rw [e]
        refine put_next (pad_right (by omega) (by omega)) rfl _ (fun _ => ?_)
        by_cases h12 : k ≤ 1200
        · right
          rw [show k - min k 1200 = 0 by omega]
          simp
        · left
          show min k 1200 = 1200
          omega
      rw [parse_step (by simp [h0]) hnx, show mostL acc.length ⟨List.replicate (k - min k 1200) 0, 0⟩ = ⟨List.replicate (k - min k 1200) 0, 0⟩ by
        unfold mostL
        rw [if_neg (by omega)]]
      rw [zeros_parse m (k - min k 1200) n _ (by omega) (by simp; omega) (by omega) (.inr (by simp))]
      simp [zl, h0]
theorem parse_zeros {k : Nat} (h1 : 1 ≤ k) (h2 : k ≤ 4000) : parse66 (List.replicate k 0) = (zl 4 k, 0) := by
  have := zeros_parse 4 k 66 [] (by omega) (by simp) (by omega) (.inl (by omega))
  simpa [parse66] using this
theorem zl_mem : ∀ (m k : Nat) (f : Fr), f ∈ zl m k → f.k = 0 ∧ f.a ≤ 1200
  | 0, _, f, h => by simp [zl] at h
  | m + 1, k, f, h => by
    unfold zl at h
    split at h
    · simp at h
    · rcases List.mem_cons.1 h with rfl | h
      · exact ⟨rfl, Nat.min_le_right _ _⟩
      · exact zl_mem m _ f h
def sumA (l : List Fr) : Nat := (l.map Fr.a).sum
theorem zl_sum : ∀ (m k : Nat), k ≤ 1200 * m → sumA (zl m k) = k ∧ (zl m k).length = (k + 1199) / 1200
  | 0, k, h => by
    obtain rfl : k = 0 := by omega
    simp [zl, sumA]
  | m + 1, k, h => by
    unfold zl
    split
    · rename_i h0
      subst h0
      simp [sumA]
    · obtain ⟨h1, h2⟩ := zl_sum m (k - min k 1200) (by omega)
      refine ⟨?_, ?_⟩
      · have : sumA (padF (min k 1200) :: zl m (k - min k 1200)) = min k 1200 + sumA (zl m (k - min k 1200)) := by simp [sumA, padF]
        rw [this, h1]
        omega
      · rw [List.length_cons, h2]
        omega
end Go.Proofs.YteegonadodmeeaaDoor
