/- A frame's bytes: the program's, all kinds. (printed by gengaq.py) -/
import Derived.Test.YteegonadodmeeaaDoorGaO
import Derived.Test.YteegonadodmeeaaDoorGaP
namespace Go.Proofs.YteegonadodmeeaaDoor
open Go.RowKit

theorem entp_kinds_10 : Enter 48 := fun _ _ => by kernel_rfl
theorem entp_kinds_11 : Enter 49 := fun _ _ => by kernel_rfl
theorem entp_kinds_12 : Enter 50 := fun _ _ => by kernel_rfl
theorem entp_kinds_13 : Enter 51 := fun _ _ => by kernel_rfl
theorem entp_kinds_17 : Enter 55 := fun _ _ => by kernel_rfl
theorem entp_kinds_20 : Enter 62 := fun _ _ => by kernel_rfl
theorem entp_kinds_23 : Enter 65 := fun _ _ => by kernel_rfl
theorem entp_kinds_26 : Enter 69 := fun _ _ => by kernel_rfl
theorem entp_kinds_29 : Enter 73 := fun _ _ => by kernel_rfl
theorem entp_kinds_34 : Enter 79 := fun _ _ => by kernel_rfl
theorem entp_kinds_37 : Enter 84 := fun _ _ => by kernel_rfl
theorem entp_kinds_40 : Enter 87 := fun _ _ => by kernel_rfl
theorem entp_putAck : Enter 59 := fun _ _ => by kernel_rfl
theorem kind_cases {k : Int} {m : Mk} (h : maskK k = some m) : k = 0 ∨ k = 1 ∨ k = 2 ∨ k = 4 ∨ k = 5 ∨ k = 6 ∨ k = 7 ∨ k = 8 ∨ k = 16 ∨ k = 17 ∨ k = 18 ∨ k = 20 ∨ k = 21 ∨ k = 22 ∨ k = 24 ∨ k = 25 ∨ k = 26 ∨ k = 27 ∨ k = 28 ∨ k = 30 := by
  unfold maskK at h
  split at h
  · unfold maskN at h
    split at h <;> first | omega | cases h
  · cases h
theorem right_parts {f : Fr} (h : rightF f = true) : ∃ m, maskK f.k = some m ∧ topB f = true ∧ f = onlyF m f ∧ okN f.k.toNat f = true := by
  unfold rightF at h
  split at h
  · cases h
  · rename_i m hm
    simp only [Bool.and_eq_true, sameF, decide_eq_true_eq] at h
    exact ⟨m, hm, h.1.1, h.1.2, h.2⟩
theorem fl_of {f : Fr} (h : rightF f = true) (hk : f.k ≠ 8 ∧ f.k ≠ 18 ∧ f.k ≠ 22 ∧ f.k ≠ 28) : f.fl = false := by
  obtain ⟨m, hm, _, he, _⟩ := right_parts h
  have hfl : f.fl = (onlyF m f).fl := congrArg Fr.fl he
  have hm2 := hm
  rcases kind_cases hm with h | h | h | h | h | h | h | h | h | h | h | h | h | h | h | h | h | h | h | h <;> (rw [h] at hm2; first | omega | (obtain rfl := Option.some.inj hm2; rw [hfl]; rfl))
theorem ok_at {f : Fr} (h : rightF f = true) {k : Nat} (hk : f.k = (k : Int)) : okN k f = true := by
  obtain ⟨m, hm, _, he, ho⟩ := right_parts h
  rw [hk] at ho
  exact ho
theorem tag_plain {f : Fr} (h : rightF f = true) (hk : f.k ≠ 8 ∧ f.k ≠ 18 ∧ f.k ≠ 22 ∧ f.k ≠ 28) (h0 : 0 ≤ f.k) : (tagN f : Int) = f.k := by
  unfold tagN
  rw [if_neg hk.1, fl_of h hk]
  simp; omega
theorem tag_flag {f : Fr} {k : Nat} (hk : f.k = (k : Int)) (h8 : k ≠ 8) : (tagN f : Int) = k + bitN f.fl 1 := by
  unfold tagN bitN
  rw [if_neg (by omega), hk]
  cases f.fl <;> simp
/-- How long what a right frame has may be. -/
theorem right_len {f : Fr} (h : rightF f = true) : f.d.length ≤ 1200 ∧ f.rs.length ≤ 16 := by
  obtain ⟨m, hm, _, he, ho⟩ := right_parts h
  have hd : f.d = (onlyF m f).d := congrArg Fr.d he
  have hr : f.rs = (onlyF m f).rs := congrArg Fr.rs he
  have hm2 := hm
  rcases kind_cases hm with hk | hk | hk | hk | hk | hk | hk | hk | hk | hk | hk | hk | hk | hk | hk | hk | hk | hk | hk | hk
  · rw [hk] at hm2 ho
    obtain rfl := Option.some.inj hm2
    have h1 : f.d = [] := hd
    have h2 : f.rs = [] := hr
    rw [h1, h2]
    exact ⟨by simp, by simp⟩
  · rw [hk] at hm2 ho
    obtain rfl := Option.some.inj hm2
    have h1 : f.d = [] := hd
    have h2 : f.rs = [] := hr
    rw [h1, h2]
    exact ⟨by simp, by simp⟩
  · rw [hk] at hm2 ho
    obtain rfl := Option.some.inj hm2
    have h1 : okN 2 f = true := ho
    simp only [okN, rangesB, Bool.and_eq_true, decide_eq_true_eq] at h1
    have h2 : f.d = [] := hd
    rw [h2]
    exact ⟨by simp, h1.2⟩
  · rw [hk] at hm2 ho
    obtain rfl := Option.some.inj hm2
    have h1 : f.d = [] := hd
    have h2 : f.rs = [] := hr
    rw [h1, h2]
    exact ⟨by simp, by simp⟩
  · rw [hk] at hm2 ho
    obtain rfl := Option.some.inj hm2
    have h1 : f.d = [] := hd
    have h2 : f.rs = [] := hr
    rw [h1, h2]
    exact ⟨by simp, by simp⟩
  · rw [hk] at hm2 ho
    obtain rfl := Option.some.inj hm2
    have h1 : okN 6 f = true := ho
    simp only [okN, Bool.and_eq_true, decide_eq_true_eq] at h1
    have h2 : f.rs = [] := hr
    rw [h2]
    exact ⟨by omega, by simp⟩
  · rw [hk] at hm2 ho
    obtain rfl := Option.some.inj hm2
    have h1 : okN 7 f = true := ho
    simp only [okN, Bool.and_eq_true, decide_eq_true_eq] at h1
    have h2 : f.rs = [] := hr
    rw [h2]
    exact ⟨by omega, by simp⟩
  · rw [hk] at hm2 ho
    obtain rfl := Option.some.inj hm2
    have h1 : okN 8 f = true := ho
    simp only [okN, Bool.and_eq_true, decide_eq_true_eq] at h1
    have h2 : f.rs = [] := hr
    rw [h2]
    exact ⟨by omega, by simp⟩
  · rw [hk] at hm2 ho
    obtain rfl := Option.some.inj hm2
    have h1 : f.d = [] := hd
    have h2 : f.rs = [] := hr
    rw [h1, h2]
    exact ⟨by simp, by simp⟩
  · rw [hk] at hm2 ho
    obtain rfl := Option.some.inj hm2
    have h1 : f.d = [] := hd
    have h2 : f.rs = [] := hr
    rw [h1, h2]
    exact ⟨by simp, by simp⟩
  · rw [hk] at hm2 ho
    obtain rfl := Option.some.inj hm2
    have h1 : f.d = [] := hd
    have h2 : f.rs = [] := hr
    rw [h1, h2]
    exact ⟨by simp, by simp⟩
  · rw [hk] at hm2 ho
    obtain rfl := Option.some.inj hm2
    have h1 : f.d = [] := hd
    have h2 : f.rs = [] := hr
    rw [h1, h2]
    exact ⟨by simp, by simp⟩
  · rw [hk] at hm2 ho
    obtain rfl := Option.some.inj hm2
    have h1 : f.d = [] := hd
    have h2 : f.rs = [] := hr
    rw [h1, h2]
    exact ⟨by simp, by simp⟩
  · rw [hk] at hm2 ho
    obtain rfl := Option.some.inj hm2
    have h1 : f.d = [] := hd
    have h2 : f.rs = [] := hr
    rw [h1, h2]
    exact ⟨by simp, by simp⟩
  · rw [hk] at hm2 ho
    obtain rfl := Option.some.inj hm2
    have h1 : okN 24 f = true := ho
    simp only [okN, Bool.and_eq_true, decide_eq_true_eq] at h1
    have h2 : f.rs = [] := hr
    rw [h2]
    exact ⟨by omega, by simp⟩
  · rw [hk] at hm2 ho
    obtain rfl := Option.some.inj hm2
    have h1 : f.d = [] := hd
    have h2 : f.rs = [] := hr
    rw [h1, h2]
    exact ⟨by simp, by simp⟩
  · rw [hk] at hm2 ho
    obtain rfl := Option.some.inj hm2
    have h1 : okN 26 f = true := ho
    simp only [okN, decide_eq_true_eq] at h1
    have h2 : f.rs = [] := hr
    rw [h2]
    exact ⟨by omega, by simp⟩
  · rw [hk] at hm2 ho
    obtain rfl := Option.some.inj hm2
    have h1 : okN 27 f = true := ho
    simp only [okN, decide_eq_true_eq] at h1
    have h2 : f.rs = [] := hr
    rw [h2]
    exact ⟨by omega, by simp⟩
  · rw [hk] at hm2 ho
    obtain rfl := Option.some.inj hm2
    have h1 : okN 28 f = true := ho
    simp only [okN, Bool.and_eq_true, decide_eq_true_eq] at h1
    have h2 : f.rs = [] := hr
    rw [h2]
    exact ⟨by omega, by simp⟩
  · rw [hk] at hm2 ho
    obtain rfl := Option.some.inj hm2
    have h1 : f.d = [] := hd
    have h2 : f.rs = [] := hr
    rw [h1, h2]
    exact ⟨by simp, by simp⟩
theorem body_len {f : Fr} (h : rightF f = true) (ht : f.t.length = 16) : (bodyN f.k.toNat f).length ≤ 2000 := by
  obtain ⟨hd, hr⟩ := right_len h
  obtain ⟨m, hm, _, _, ho⟩ := right_parts h
  have l1 := putL_len f.id
  have l2 := putL_len f.a
  have l3 := putL_len f.c
  have l4 := putL_len f.d.length
  have hack : (ackL f.b f.rs).length ≤ 2000 := by
    cases hrs : f.rs with
    | nil => simp [ackL]
    | cons x l =>
      rw [← ackUp_all]
      exact ackUp_len _ _ _ _ (by rw [hrs] at hr; simp at hr; omega)
  rcases kind_cases hm with hk | hk | hk | hk | hk | hk | hk | hk | hk | hk | hk | hk | hk | hk | hk | hk | hk | hk | hk | hk
  · rw [hk] at ho ⊢
    have h1 : okN 0 f = true := ho
    simp only [okN, Bool.and_eq_true, decide_eq_true_eq] at h1
    show (List.replicate (f.a - 1) (0 : UInt8)).length ≤ 2000
    simp; omega
  · rw [hk] at ho ⊢
    show ([] : List UInt8).length ≤ 2000
    simp
  · rw [hk] at ho ⊢
    exact hack
  · rw [hk] at ho ⊢
    show (putL f.id ++ putL f.c ++ putL f.a).length ≤ 2000
    simp only [List.length_append]
    omega
  · rw [hk] at ho ⊢
    show (putL f.id ++ putL f.c).length ≤ 2000
    simp only [List.length_append]
    omega
  · rw [hk] at ho ⊢
    show (putL f.a ++ dataL f.d).length ≤ 2000
    simp only [dataL, List.length_append]
    omega
  · rw [hk] at ho ⊢
    show (dataL f.d).length ≤ 2000
    simp only [dataL, List.length_append]
    omega
  · rw [hk] at ho ⊢
    show (putL f.id ++ (if f.a = 0 then [] else putL f.a) ++ dataL f.d).length ≤ 2000
    split <;> simp [dataL] <;> omega
  · rw [hk] at ho ⊢
    show (putL f.a).length ≤ 2000
    omega
  · rw [hk] at ho ⊢
    show (putL f.id ++ putL f.a).length ≤ 2000
    simp only [List.length_append]
    omega
  · rw [hk] at ho ⊢
    show (putL f.a).length ≤ 2000
    omega
  · rw [hk] at ho ⊢
    show (putL f.a).length ≤ 2000
    omega
  · rw [hk] at ho ⊢
    show (putL f.id ++ putL f.a).length ≤ 2000
    simp only [List.length_append]
    omega
  · rw [hk] at ho ⊢
    show (putL f.a).length ≤ 2000
    omega
  · rw [hk] at ho ⊢
    show (putL f.id ++ putL f.a ++ [UInt8.ofNat f.d.length] ++ f.d ++ f.t).length ≤ 2000
    simp only [List.length_append, List.length_cons, List.length_nil]
    omega
  · rw [hk] at ho ⊢
    show (putL f.id).length ≤ 2000
    omega
  · rw [hk] at ho ⊢
    show (f.d).length ≤ 2000
    omega
  · rw [hk] at ho ⊢
    show (f.d).length ≤ 2000
    omega
  · rw [hk] at ho ⊢
    show (putL f.c ++ (bif f.fl then [] else putL f.a) ++ dataL f.d).length ≤ 2000
    cases f.fl <;> simp [dataL] <;> omega
  · rw [hk] at ho ⊢
    show ([] : List UInt8).length ≤ 2000
    simp
theorem fput_any {w : World} {f : Fr} {vd vr : Value} (hT : Tabs w) (hv : FrV w f vd vr) (hrl : (f.rs.length : Int) ≤ 100000) (hok : okKey f.k) (hro : RngOk f) :
    Calls Tryd.prog 15 #[frV f vd vr] w fun e w' => ∃ v, e = .returned v ∧ OwnB w' w.heap.size v (fputL f) ∧ Mod (fun _ => False) w w' := by
  cases hr : rightF f
  · exact fput_no hv hrl hok hro hr
  · obtain ⟨m, hm, htop, _, _⟩ := right_parts hr
    have hd := (right_len hr).1
    have hb := Nat.le_trans (body_len hr hv.t) (show 2000 ≤ 100000 by decide)
    have hdi : (f.d.length : Int) ≤ 100000 := by omega
    have TB : ∀ X, Mod (fun _ => False) w X → Tabs X := fun X h => h.tabs hT (fun h => h)
    rcases kind_cases hm with hk | hk | hk | hk | hk | hk | hk | hk | hk | hk | hk | hk | hk | hk | hk | hk | hk | hk | hk | hk
    · have ho := ok_at hr (k := 0) hk
      simp only [okN, Bool.and_eq_true, decide_eq_true_eq] at ho
      exact fput_plain hv hrl hok hro hr (n := tagN f) (by omega) (by omega) (by omega) (by omega) (tag_plain hr (by omega) (by omega)) rfl (by have := tag_plain hr (by omega) (by omega); omega) rfl hb (by rw [hk]; rfl) (fun X hX => by rw [hk]; exact put17 (by omega) (by omega)) entp_kinds_17 rfl
    · have ho := ok_at hr (k := 1) hk
      exact fput_plain hv hrl hok hro hr (n := tagN f) (by omega) (by omega) (by omega) (by omega) (tag_plain hr (by omega) (by omega)) rfl (by have := tag_plain hr (by omega) (by omega); omega) rfl hb (by rw [hk]; rfl) (fun X hX => by rw [hk]; exact put13) entp_kinds_13 rfl
    · have ho := ok_at hr (k := 2) hk
      simp only [okN, rangesB, Bool.and_eq_true, decide_eq_true_eq] at ho
      obtain ⟨x, l, hrs⟩ : ∃ x l, f.rs = x :: l := by
        cases h : f.rs with
        | nil => rw [h] at ho; simp at ho
        | cons x l => exact ⟨x, l, rfl⟩
      exact fput_plain hv hrl hok hro hr (n := tagN f) (by omega) (by omega) (by omega) (by omega) (tag_plain hr (by omega) (by omega)) rfl (by have := tag_plain hr (by omega) (by omega); omega) rfl hb (by rw [hk]; rfl) (fun X hX => by
        rw [hk]
        exact putack (TB X hX) (hv.kept hX) hrs ((rngB_iff _ _).1 ho.1.1) (by have := ho.2; rw [hrs] at this; simp at this; omega)) entp_putAck rfl
    · have ho := ok_at hr (k := 4) hk
      exact fput_plain hv hrl hok hro hr (n := tagN f) (by omega) (by omega) (by omega) (by omega) (tag_plain hr (by omega) (by omega)) rfl (by have := tag_plain hr (by omega) (by omega); omega) rfl hb (by rw [hk]; rfl) (fun X hX => by rw [hk]; exact put20 (TB X hX)) entp_kinds_20 rfl
    · have ho := ok_at hr (k := 5) hk
      exact fput_plain hv hrl hok hro hr (n := tagN f) (by omega) (by omega) (by omega) (by omega) (tag_plain hr (by omega) (by omega)) rfl (by have := tag_plain hr (by omega) (by omega); omega) rfl hb (by rw [hk]; rfl) (fun X hX => by rw [hk]; exact put23 (TB X hX)) entp_kinds_23 rfl
    · have ho := ok_at hr (k := 6) hk
      exact fput_plain hv hrl hok hro hr (n := tagN f) (by omega) (by omega) (by omega) (by omega) (tag_plain hr (by omega) (by omega)) rfl (by have := tag_plain hr (by omega) (by omega); omega) rfl hb (by rw [hk]; rfl) (fun X hX => by rw [hk]; exact put26 (TB X hX) (hv.kept hX) hdi) entp_kinds_26 rfl
    · have ho := ok_at hr (k := 7) hk
      exact fput_plain hv hrl hok hro hr (n := tagN f) (by omega) (by omega) (by omega) (by omega) (tag_plain hr (by omega) (by omega)) rfl (by have := tag_plain hr (by omega) (by omega); omega) rfl hb (by rw [hk]; rfl) (fun X hX => by rw [hk]; exact put29 (TB X hX) (hv.kept hX) hdi) entp_kinds_29 rfl
    · exact fput_stream hT hv hrl hok hro hr hk (by omega)
    · have ho := ok_at hr (k := 16) hk
      exact fput_plain hv hrl hok hro hr (n := tagN f) (by omega) (by omega) (by omega) (by omega) (tag_plain hr (by omega) (by omega)) rfl (by have := tag_plain hr (by omega) (by omega); omega) rfl hb (by rw [hk]; rfl) (fun X hX => by rw [hk]; exact put10 (TB X hX)) entp_kinds_10 rfl
    · have ho := ok_at hr (k := 17) hk
      exact fput_plain hv hrl hok hro hr (n := tagN f) (by omega) (by omega) (by omega) (by omega) (tag_plain hr (by omega) (by omega)) rfl (by have := tag_plain hr (by omega) (by omega); omega) rfl hb (by rw [hk]; rfl) (fun X hX => by rw [hk]; exact put11 (TB X hX)) entp_kinds_11 rfl
    · have ho := ok_at hr (k := 18) hk
      exact fput_k18 hv hrl hok hro hr (n := tagN f) hk (tag_flag (k := 18) hk (by decide)) rfl (by have := tag_flag (k := 18) hk (by decide); have := bitN_le f.fl 1 (by decide); omega) rfl hb (by rw [hk]; rfl) (fun X hX => by rw [hk]; exact put10 (TB X hX)) entp_kinds_10 rfl
    · have ho := ok_at hr (k := 20) hk
      exact fput_plain hv hrl hok hro hr (n := tagN f) (by omega) (by omega) (by omega) (by omega) (tag_plain hr (by omega) (by omega)) rfl (by have := tag_plain hr (by omega) (by omega); omega) rfl hb (by rw [hk]; rfl) (fun X hX => by rw [hk]; exact put10 (TB X hX)) entp_kinds_10 rfl
    · have ho := ok_at hr (k := 21) hk
      exact fput_plain hv hrl hok hro hr (n := tagN f) (by omega) (by omega) (by omega) (by omega) (tag_plain hr (by omega) (by omega)) rfl (by have := tag_plain hr (by omega) (by omega); omega) rfl hb (by rw [hk]; rfl) (fun X hX => by rw [hk]; exact put11 (TB X hX)) entp_kinds_11 rfl
    · have ho := ok_at hr (k := 22) hk
      exact fput_k22 hv hrl hok hro hr (n := tagN f) hk (tag_flag (k := 22) hk (by decide)) rfl (by have := tag_flag (k := 22) hk (by decide); have := bitN_le f.fl 1 (by decide); omega) rfl hb (by rw [hk]; rfl) (fun X hX => by rw [hk]; exact put10 (TB X hX)) entp_kinds_10 rfl
    · have ho := ok_at hr (k := 24) hk
      simp only [okN, Bool.and_eq_true, decide_eq_true_eq] at ho
      exact fput_plain hv hrl hok hro hr (n := tagN f) (by omega) (by omega) (by omega) (by omega) (tag_plain hr (by omega) (by omega)) rfl (by have := tag_plain hr (by omega) (by omega); omega) rfl hb (by rw [hk]; rfl) (fun X hX => by rw [hk]; exact put34 (TB X hX) (hv.kept hX) (by omega)) entp_kinds_34 rfl
    · have ho := ok_at hr (k := 25) hk
      exact fput_plain hv hrl hok hro hr (n := tagN f) (by omega) (by omega) (by omega) (by omega) (tag_plain hr (by omega) (by omega)) rfl (by have := tag_plain hr (by omega) (by omega); omega) rfl hb (by rw [hk]; rfl) (fun X hX => by rw [hk]; exact put37 (TB X hX)) entp_kinds_37 rfl
    · have ho := ok_at hr (k := 26) hk
      exact fput_plain hv hrl hok hro hr (n := tagN f) (by omega) (by omega) (by omega) (by omega) (tag_plain hr (by omega) (by omega)) rfl (by have := tag_plain hr (by omega) (by omega); omega) rfl hb (by rw [hk]; rfl) (fun X hX => by rw [hk]; exact put12 (hv.kept hX)) entp_kinds_12 rfl
    · have ho := ok_at hr (k := 27) hk
      exact fput_plain hv hrl hok hro hr (n := tagN f) (by omega) (by omega) (by omega) (by omega) (tag_plain hr (by omega) (by omega)) rfl (by have := tag_plain hr (by omega) (by omega); omega) rfl hb (by rw [hk]; rfl) (fun X hX => by rw [hk]; exact put12 (hv.kept hX)) entp_kinds_12 rfl
    · have ho := ok_at hr (k := 28) hk
      exact fput_k28 hv hrl hok hro hr (n := tagN f) hk (tag_flag (k := 28) hk (by decide)) rfl (by have := tag_flag (k := 28) hk (by decide); have := bitN_le f.fl 1 (by decide); omega) rfl hb (by rw [hk]; rfl) (fun X hX => by
        rw [hk]
        show Puts _ X f vd vr (putL f.c ++ (bif f.fl then [] else putL f.a) ++ dataL f.d)
        cases hfl : f.fl
        · exact put40f (TB X hX) (hv.kept hX) hdi hfl
        · simpa using put40t (TB X hX) (hv.kept hX) hdi hfl) entp_kinds_40 rfl
    · have ho := ok_at hr (k := 30) hk
      exact fput_plain hv hrl hok hro hr (n := tagN f) (by omega) (by omega) (by omega) (by omega) (tag_plain hr (by omega) (by omega)) rfl (by have := tag_plain hr (by omega) (by omega); omega) rfl hb (by rw [hk]; rfl) (fun X hX => by rw [hk]; exact put13) entp_kinds_13 rfl
end Go.Proofs.YteegonadodmeeaaDoor
