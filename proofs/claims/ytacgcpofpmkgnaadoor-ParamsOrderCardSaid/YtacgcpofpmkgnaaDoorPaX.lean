/- Plain law: parameters are read in any order. No program in sight. -/
import Derived.Test.YtacgcpofpmkgnaaDoorPaR
namespace Go.Proofs.YtacgcpofpmkgnaaDoor

/-- The bytes of one of the parameters. -/
def bytesOf (q : Pm) (id : Nat) : List UInt8 := if id = 1 then oneL 1 q.i else if id = 2 then tokL q else if id = 4 then oneL 4 q.d else if id = 5 then oneL 5 q.s else if id = 8 then oneL 8 q.n else []
def present (q : Pm) (id : Nat) : Bool := !(bytesOf q id).isEmpty
def idsOf (q : Pm) : List Nat := [1, 2, 4, 5, 8].filter (present q)
/-- One of the parameters, as q has it. -/
def put1 (q : Pm) (p : Pm) (id : Nat) : Pm := if id = 1 then { p with i := q.i } else if id = 2 then { p with h := q.h, t := q.t } else if id = 4 then { p with d := q.d } else if id = 5 then { p with s := q.s } else if id = 8 then { p with n := q.n } else p
theorem ids_five {q : Pm} {id : Nat} (h : present q id = true) : id = 1 ∨ id = 2 ∨ id = 4 ∨ id = 5 ∨ id = 8 := by
  unfold present bytesOf at h
  split at h
  · omega
  · split at h
    · omega
    · split at h
      · omega
      · split at h
        · omega
        · split at h
          · omega
          · simp at h
theorem one_none {id n : Nat} (h : (!(oneL id n).isEmpty) = true) : n ≠ 0 := by
  rintro rfl
  rw [one_zero id 0 rfl] at h
  simp at h
theorem one_some {id n : Nat} (h : (!(oneL id n).isEmpty) = false) : n = 0 := by
  apply Classical.byContradiction
  intro hn
  rw [one_pos id n hn] at h
  simp at h
theorem tok_none {q : Pm} (h : (!(tokL q).isEmpty) = true) : q.h = true := by
  cases hq : q.h
  · rw [tok_no q hq] at h; simp at h
  · rfl
theorem tok_some {q : Pm} (h : (!(tokL q).isEmpty) = false) : q.h = false := by
  cases hq : q.h
  · rfl
  · rw [tok_yes q hq] at h; simp at h
/-- The shape of a present one. -/
theorem present_form {q : Pm} (ht : q.t.length = 16) {id : Nat} (h : present q id = true) : ∃ v, v.length < 64 ∧ bytesOf q id = UInt8.ofNat id :: UInt8.ofNat v.length :: v := by
  have h8 : ∀ n, (putL n).length < 64 := fun n => by have := putL_len n; omega
  rcases ids_five h with rfl | rfl | rfl | rfl | rfl
  · exact ⟨putL q.i, h8 _, one_pos 1 q.i (one_none h)⟩
  · refine ⟨q.t, by omega, ?_⟩
    show tokL q = _
    rw [tok_yes q (tok_none h), ht]
    rfl
  · exact ⟨putL q.d, h8 _, one_pos 4 q.d (one_none h)⟩
  · exact ⟨putL q.s, h8 _, one_pos 5 q.s (one_none h)⟩
  · exact ⟨putL q.n, h8 _, one_pos 8 q.n (one_none h)⟩
theorem read_id {q : Pm} (hm : mayB q = true) (ht : q.t.length = 16) {id f : Nat} {p : Pm} {had : List Nat} {more : List UInt8} (h : present q id = true) (hh : had.contains id = false) :
    preadL (f + 1) p had ⟨bytesOf q id ++ more, 0⟩ = preadL f (put1 q p id) (id :: had) ⟨more, 0⟩ := by
  obtain ⟨b1, b2, b3, b4, _⟩ := may_bounds hm
  rcases ids_five h with rfl | rfl | rfl | rfl | rfl
  · exact read_one (.inl rfl) b1 hh (one_none h)
  · show preadL (f + 1) p had ⟨tokL q ++ more, 0⟩ = _
    have hq := tok_none h
    rw [tok_yes q hq, read_tok ht hh]
    simp [put1, hq]
  · exact read_one (.inr (.inl rfl)) b2 hh (one_none h)
  · exact read_one (.inr (.inr (.inl rfl))) b3 hh (one_none h)
  · exact read_one (.inr (.inr (.inr rfl))) b4 hh (one_none h)
theorem read_ids {q : Pm} (hm : mayB q = true) (ht : q.t.length = 16) (f : Nat) (more : List UInt8) : ∀ (l : List Nat) (p : Pm) (had : List Nat), (∀ id ∈ l, present q id = true) → l.Nodup → (∀ id ∈ l, had.contains id = false) →
    preadL (f + l.length) p had ⟨l.flatMap (bytesOf q) ++ more, 0⟩ = preadL f (l.foldl (put1 q) p) (l.reverse ++ had) ⟨more, 0⟩
  | [], p, had, _, _, _ => by simp
  | id :: l, p, had, h1, h2, h3 => by
    obtain ⟨hn, h2'⟩ := List.nodup_cons.1 h2
    have ih := read_ids hm ht f more l (put1 q p id) (id :: had) (fun x hx => h1 x (List.mem_cons_of_mem _ hx)) h2' (fun x hx => by
      have := h3 x (List.mem_cons_of_mem _ hx)
      rw [List.contains_cons, this, Bool.or_false]
      simp only [beq_eq_false_iff_ne]
      rintro rfl
      exact hn hx)
    rw [List.flatMap_cons, List.append_assoc, List.length_cons, ← Nat.add_assoc, read_id hm ht (h1 id (by simp)) (h3 id (by simp)), ih]
    simp
theorem fold_i (q : Pm) : ∀ (l : List Nat) (p : Pm), (l.foldl (put1 q) p).i = if 1 ∈ l then q.i else p.i
  | [], p => by simp
  | id :: l, p => by
    rw [List.foldl_cons, fold_i q l]
    by_cases h : 1 ∈ l
    · simp [h]
    · by_cases e : id = 1
      · subst e; simp [put1]
      · have : (put1 q p id).i = p.i := by unfold put1; rw [if_neg e]; split <;> (try split) <;> (try split) <;> (try split) <;> rfl
        have e' : ¬ 1 = id := fun x => e x.symm
        simp [h, this, e']
theorem fold_d (q : Pm) : ∀ (l : List Nat) (p : Pm), (l.foldl (put1 q) p).d = if 4 ∈ l then q.d else p.d
  | [], p => by simp
  | id :: l, p => by
    rw [List.foldl_cons, fold_d q l]
    by_cases h : 4 ∈ l
    · simp [h]
    · by_cases e : id = 4
      · subst e; simp [put1]
      · have : (put1 q p id).d = p.d := by unfold put1; split <;> (try split) <;> (try split) <;> (try split) <;> (try split) <;> first | rfl | (exfalso; omega)
        have e' : ¬ 4 = id := fun x => e x.symm
        simp [h, this, e']
theorem fold_s (q : Pm) : ∀ (l : List Nat) (p : Pm), (l.foldl (put1 q) p).s = if 5 ∈ l then q.s else p.s
  | [], p => by simp
  | id :: l, p => by
    rw [List.foldl_cons, fold_s q l]
    by_cases h : 5 ∈ l
    · simp [h]
    · by_cases e : id = 5
      · subst e; simp [put1]
      · have : (put1 q p id).s = p.s := by unfold put1; split <;> (try split) <;> (try split) <;> (try split) <;> (try split) <;> first | rfl | (exfalso; omega)
        have e' : ¬ 5 = id := fun x => e x.symm
        simp [h, this, e']
theorem fold_n (q : Pm) : ∀ (l : List Nat) (p : Pm), (l.foldl (put1 q) p).n = if 8 ∈ l then q.n else p.n
  | [], p => by simp
  | id :: l, p => by
    rw [List.foldl_cons, fold_n q l]
    by_cases h : 8 ∈ l
    · simp [h]
    · by_cases e : id = 8
      · subst e; simp [put1]
      · have : (put1 q p id).n = p.n := by unfold put1; split <;> (try split) <;> (try split) <;> (try split) <;> (try split) <;> first | rfl | (exfalso; omega)
        have e' : ¬ 8 = id := fun x => e x.symm
        simp [h, this, e']
theorem fold_t (q : Pm) : ∀ (l : List Nat) (p : Pm), ((l.foldl (put1 q) p).h = if 2 ∈ l then q.h else p.h) ∧ ((l.foldl (put1 q) p).t = if 2 ∈ l then q.t else p.t)
  | [], p => by simp
  | id :: l, p => by
    rw [List.foldl_cons]
    obtain ⟨i1, i2⟩ := fold_t q l (put1 q p id)
    rw [i1, i2]
    by_cases h : 2 ∈ l
    · simp [h]
    · by_cases e : id = 2
      · subst e; simp [put1]
      · have h1 : (put1 q p id).h = p.h := by unfold put1; split <;> (try split) <;> (try split) <;> (try split) <;> (try split) <;> first | rfl | (exfalso; omega)
        have h2 : (put1 q p id).t = p.t := by unfold put1; split <;> (try split) <;> (try split) <;> (try split) <;> (try split) <;> first | rfl | (exfalso; omega)
        have e' : ¬ 2 = id := fun x => e x.symm
        simp [h, h1, h2, e']
theorem mem_ids {q : Pm} {id : Nat} : id ∈ idsOf q ↔ present q id = true := by
  unfold idsOf
  rw [List.mem_filter]
  constructor
  · exact fun h => h.2
  · intro h
    refine ⟨?_, h⟩
    rcases ids_five h with rfl | rfl | rfl | rfl | rfl <;> decide
theorem fold_all {q : Pm} (hm : mayB q = true) {l : List Nat} (hl : ∀ id, id ∈ l ↔ id ∈ idsOf q) : l.foldl (put1 q) Pm.zero = q := by
  obtain ⟨_, _, _, _, b5⟩ := may_bounds hm
  have e1 := fold_i q l Pm.zero
  have e2 := fold_d q l Pm.zero
  have e3 := fold_s q l Pm.zero
  have e4 := fold_n q l Pm.zero
  obtain ⟨e5, e6⟩ := fold_t q l Pm.zero
  have key : ∀ id, id ∉ l → present q id = false := fun id h => by
    have : ¬ present q id = true := fun hp => h ((hl id).2 (mem_ids.2 hp))
    simpa using this
  have f1 : (l.foldl (put1 q) Pm.zero).i = q.i := by
    rw [e1]; split
    · rfl
    · rename_i h; exact (one_some (id := 1) (key 1 h)).symm
  have f2 : (l.foldl (put1 q) Pm.zero).d = q.d := by
    rw [e2]; split
    · rfl
    · rename_i h; exact (one_some (id := 4) (key 4 h)).symm
  have f3 : (l.foldl (put1 q) Pm.zero).s = q.s := by
    rw [e3]; split
    · rfl
    · rename_i h; exact (one_some (id := 5) (key 5 h)).symm
  have f4 : (l.foldl (put1 q) Pm.zero).n = q.n := by
    rw [e4]; split
    · rfl
    · rename_i h; exact (one_some (id := 8) (key 8 h)).symm
  have f5 : (l.foldl (put1 q) Pm.zero).h = q.h := by
    rw [e5]; split
    · rfl
    · rename_i h; exact (tok_some (key 2 h)).symm
  have f6 : (l.foldl (put1 q) Pm.zero).t = q.t := by
    rw [e6]; split
    · rfl
    · rename_i h
      have hh := tok_some (key 2 h)
      rcases b5 with h' | h'
      · rw [hh] at h'; cases h'
      · exact h'.symm
  generalize l.foldl (put1 q) Pm.zero = p at *
  obtain ⟨i, d, s, n, hh, t⟩ := p
  obtain ⟨i', d', s', n', hh', t'⟩ := q
  simp only at f1 f2 f3 f4 f5 f6
  subst f1 f2 f3 f4 f5 f6
  rfl
/-- In whatever order. -/
theorem read_order {q : Pm} (hm : mayB q = true) (ht : q.t.length = 16) {l : List Nat} (hl : ∀ id, id ∈ l ↔ id ∈ idsOf q) (hn : l.Nodup) : preadF (l.flatMap (bytesOf q)) = (q, 0) := by
  have h := read_ids hm ht ((l.flatMap (bytesOf q)).length + 1) [] l Pm.zero [] (fun id hx => mem_ids.1 ((hl id).1 hx)) hn (fun _ _ => by simp)
  rw [List.append_nil, preadF_more (by omega), fold_all hm hl] at h
  rw [h, pread_end rfl, finP, if_pos hm]
theorem flat_filter (q : Pm) : ∀ l : List Nat, (l.filter (present q)).flatMap (bytesOf q) = l.flatMap (bytesOf q)
  | [] => rfl
  | id :: l => by
    rw [List.filter_cons]
    split
    · rw [List.flatMap_cons, List.flatMap_cons, flat_filter q l]
    · rename_i h
      have : bytesOf q id = [] := by
        have : present q id = false := by simpa using h
        unfold present at this
        simpa using this
      rw [List.flatMap_cons, this, flat_filter q l]
      rfl
theorem put_flat {q : Pm} (hm : mayB q = true) : pputL q = (idsOf q).flatMap (bytesOf q) := by
  unfold idsOf
  rw [flat_filter, put_yes hm]
  simp [putUp, bytesOf]
theorem ids_nodup (q : Pm) : (idsOf q).Nodup := List.Pairwise.filter _ (by decide)
/-- A list, turned. -/
def rot (l : List Nat) (k : Nat) : List Nat := (List.range l.length).map (fun j => l.getD ((j + k) % l.length) 0)
theorem rot_mem (l : List Nat) (k : Nat) (x : Nat) : x ∈ rot l k ↔ x ∈ l := by
  unfold rot
  rw [List.mem_map]
  constructor
  · rintro ⟨j, hj, rfl⟩
    rw [List.mem_range] at hj
    have hlt : (j + k) % l.length < l.length := Nat.mod_lt _ (by omega)
    rw [List.getD_eq_getElem?_getD, List.getElem?_eq_getElem hlt]
    exact List.getElem_mem hlt
  · intro hx
    obtain ⟨i, hi, rfl⟩ := List.getElem_of_mem hx
    refine ⟨(i + (l.length - k % l.length)) % l.length, List.mem_range.2 (Nat.mod_lt _ (by omega)), ?_⟩
    have hk : k % l.length < l.length := Nat.mod_lt _ (by omega)
    have e : ((i + (l.length - k % l.length)) % l.length + k) % l.length = i := by
      have hk2 := Nat.div_add_mod k l.length
      rw [Nat.mod_add_mod, show i + (l.length - k % l.length) + k = i + l.length + l.length * (k / l.length) by omega, Nat.add_mul_mod_self_left, Nat.add_mod_right, Nat.mod_eq_of_lt hi]
    rw [e, List.getD_eq_getElem?_getD, List.getElem?_eq_getElem hi]
    rfl
theorem rot_nodup (l : List Nat) (k : Nat) (h : l.Nodup) : (rot l k).Nodup := by
  unfold rot
  unfold List.Nodup
  rw [List.pairwise_map]
  refine (List.nodup_range (n := l.length)).imp_of_mem ?_
  intro i j hi hj hne e
  rw [List.mem_range] at hi hj
  have h1 : (i + k) % l.length < l.length := Nat.mod_lt _ (by omega)
  have h2 : (j + k) % l.length < l.length := Nat.mod_lt _ (by omega)
  rw [List.getD_eq_getElem?_getD, List.getD_eq_getElem?_getD, List.getElem?_eq_getElem h1, List.getElem?_eq_getElem h2] at e
  simp only [Option.getD_some] at e
  have h3 := (List.getElem_inj h).1 e
  have h4 := Nat.div_add_mod (i + k) l.length
  have h5 := Nat.div_add_mod (j + k) l.length
  rw [h3] at h4
  rcases Nat.lt_trichotomy i j with hij | hij | hij
  · have : (i + k) / l.length = (j + k) / l.length := by
      apply Classical.byContradiction
      intro hd
      rcases Nat.lt_or_gt_of_ne hd with hd | hd
      · have := Nat.mul_le_mul_left l.length (show (i + k) / l.length + 1 ≤ (j + k) / l.length from hd)
        rw [Nat.mul_add, Nat.mul_one] at this
        omega
      · have := Nat.mul_le_mul_left l.length (show (j + k) / l.length + 1 ≤ (i + k) / l.length from hd)
        rw [Nat.mul_add, Nat.mul_one] at this
        omega
    rw [this] at h4
    omega
  · exact hne hij
  · have : (i + k) / l.length = (j + k) / l.length := by
      apply Classical.byContradiction
      intro hd
      rcases Nat.lt_or_gt_of_ne hd with hd | hd
      · have := Nat.mul_le_mul_left l.length (show (i + k) / l.length + 1 ≤ (j + k) / l.length from hd)
        rw [Nat.mul_add, Nat.mul_one] at this
        omega
      · have := Nat.mul_le_mul_left l.length (show (j + k) / l.length + 1 ≤ (i + k) / l.length from hd)
        rw [Nat.mul_add, Nat.mul_one] at this
        omega
    rw [this] at h4
    omega
theorem read_rot {q : Pm} (hm : mayB q = true) (ht : q.t.length = 16) (k : Nat) : preadF ((rot (idsOf q) k).flatMap (bytesOf q)) = (q, 0) :=
  read_order hm ht (fun id => rot_mem (idsOf q) k id) (rot_nodup _ _ (ids_nodup q))
end Go.Proofs.YtacgcpofpmkgnaaDoor
