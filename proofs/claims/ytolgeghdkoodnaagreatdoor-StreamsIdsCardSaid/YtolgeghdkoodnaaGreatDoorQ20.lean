/- Parts of the proof: StR SuA StS StT SuB. -/
import Derived.Test.YtolgeghdkoodnaaGreatDoorQ02
import Derived.Test.YtolgeghdkoodnaaGreatDoorQ09
import Derived.Test.YtolgeghdkoodnaaGreatDoorQ10
import Derived.Test.YtolgeghdkoodnaaGreatDoorQ19
import Derived.Great.BuildSlice
import Derived.Deep.RegionWith
set_option maxRecDepth 100000
namespace Go.Proofs.YtolgeghdkoodnaaGreatDoor
open Go.RowKit Go.Maps
theorem sizeFrR (f : Fr) (vd vr : Value) (h : f.t.length = 16) : (Tryz.prog.info? 52).map (·.size) = some (frC f vd vr).size := by rw [frC_size f vd vr h]; kernel_rfl
theorem takeStream_any {B : Nat} {w : World} {tb mb : Nat} {G : Int → SM} {T : Tb} (q : TBuf B w tb mb G T) {f : Fr} {vd vr : Value} (h16 : f.t.length = 16) (hd : Byts w vd f.d) (hi : (f.id : Int) < 4611686018427387912) (hs : Small T) (hc : ComeOk T f.id f.a f.d.length f.fl) :
  Calls Tryz.prog 41 #[.pointer (some ⟨tb, 0, none⟩), .agg (frC f vd vr)] w fun e w' => TErr B w w' tb mb G T (comeT T f.id f.a f.d f.fl) 0 e := by
 obtain ⟨da, dc, rfl, -⟩ := Sl.val hd
 have HB := Lib.hid (FrB.new w f (.slice da f.d.length dc) vr h16)
 obtain ⟨-, -, -, -, -, b5, b6, -⟩ := HB.out.cells
 have HM0 : Hid (Mod (fun _ => False) w (w.alloc (.cells (frC f (.slice da f.d.length dc) vr) 52))) := Lib.hid ((Mod.refl _ _).alloc _)
 have HQ := Lib.hid q
 have HCO := Lib.hid (come_any (q.still HM0.out) (f := f) (vd := .slice da f.d.length dc) (vr := vr) h16 (byts_kept hd HM0.out) hi hs hc)
 have HSZ := Lib.hid (sizeFrR f (.slice da f.d.length dc) vr h16)
 have HBL := Lib.hid HB.out.blk
 clear q hd hs hc hi h16
 generalize f.d.length = n at *
 generalize frC f (.slice da n dc) vr = C at *
 go_enter Tryz.func41, Tryz.ntmps41
 go_wp2_with (first
  | ((with_reducible refine wpList_load_blk ?_ 52 (.tmp 3) ?_ w.heap.size ?_ C 52 _ HBL.out Tryz.underlying52 ?_ HSZ.out ?_); (· exact rfl); (· exact rfl); (· exact rfl); (· exact rfl))
  | (go_at_call 77; (with_reducible refine HCO.out.mono ?_); rintro e w1 ⟨G1, rfl, hT⟩; have HT := Lib.hid hT; clear hT)
  | fail)
 go_ret
 exact ⟨rfl, ((HQ.out.stay HM0.out).trans HT.out).tc⟩
def limitT (T : Tb) (id a : Nat) : Tb := { T with m := updM T.m id { T.m id with max := max (T.m id).max a } }
theorem outOf_any {B : Nat} {w : World} {tb mb : Nat} {G : Int → SM} {T : Tb} (q : TBuf B w tb mb G T) {id : Nat} (hi : okId id) (hz : (id : Int) ∈ T.dom) (hf : findE T id true = 0) :
  Calls Tryz.prog 79 #[.pointer (some ⟨tb, 0, none⟩), .int .u64 (id : Int)] w fun e w' => w = w' ∧ e = .returned (.tuple #[.pointer (some ⟨(G id).sb, 0, none⟩), .int .i64 0]) := by
 have hfv : findV G T id true = .pointer (some ⟨(G id).sb, 0, none⟩) := by unfold findV; rw [if_pos ⟨hf, hz⟩]
 have HFI := Lib.hid (find_any q hi true)
 rw [hfv, hf] at HFI
 clear q hi hz hf hfv
 go_enter Tryz.func79, Tryz.ntmps79
 go_wp2_with (first
  | (go_at_call 147; (with_reducible refine HFI.out.mono ?_); rintro e w1 ⟨rfl, rfl⟩)
  | fail)
 go_ret2
 exact ⟨rfl, rfl⟩
theorem takeLimit_any {B : Nat} {w : World} {tb mb : Nat} {G : Int → SM} {T : Tb} (q : TBuf B w tb mb G T) {f : Fr} {vd vr : Value} (h16 : f.t.length = 16) (hi : okId f.id) (hz : (f.id : Int) ∈ T.dom) (hf : findE T f.id true = 0) (ha : nat64 f.a) :
  Calls Tryz.prog 44 #[.pointer (some ⟨tb, 0, none⟩), .agg (frC f vd vr)] w fun e w' => TErr B w w' tb mb G T (limitT T f.id f.a) 0 e := by
 have HB := Lib.hid (FrB.new w f vd vr h16)
 obtain ⟨-, b1, b2, -⟩ := HB.out.cells
 have HM0 : Hid (Mod (fun _ => False) w (w.alloc (.cells (frC f vd vr) 52))) := Lib.hid ((Mod.refl _ _).alloc _)
 have q0 := q.still HM0.out
 have HQ := Lib.hid q
 have HO := Lib.hid (outOf_any q0 hi hz hf)
 have hs := q0.strs _ hz
 have c2 : (w.alloc (.cells (frC f vd vr) 52)).cell? ⟨(G f.id).sb, 2, none⟩ = some (.int .u64 ((T.m f.id).max : Int)) := hs.blk.cellAt 2 rfl
 have f2 : (w.alloc (.cells (frC f vd vr) 52)).frozen? ⟨(G f.id).sb, 2, none⟩ = false := hs.blk.free 2
 have hn := hs.num
 have mm : max ((T.m f.id).max : Int) (f.a : Int) = ((max (T.m f.id).max f.a : Nat) : Int) := by omega
 have hx : nat64 (max (T.m f.id).max f.a) := by have := hn.1; unfold nat64 at *; omega
 have hsc := hs.cell 2 (.int .u64 ((max (T.m f.id).max f.a : Nat) : Int)) (s' := { T.m f.id with max := max (T.m f.id).max f.a }) rfl rfl rfl (fun _ => rfl) ⟨hx, hn.2⟩
 have HT := Lib.hid (((q.stay HM0.out).trans (hsc.tt q0 hz)).drew)
 have hne : ¬ w.heap.size = (G f.id).sb := fun e => by have := (q.lt _ (.inr (.inr ⟨_, hz, .inl rfl⟩))).2; omega
 clear q q0 hs hn hx hsc hi hz hf ha h16
 generalize frC f vd vr = C at *
 generalize ((max (T.m f.id).max f.a : Nat) : Int) = y at *
 go_enter Tryz.func44, Tryz.ntmps44
 go_wp2_with (first
  | (go_at_call 79; (with_reducible refine HO.out.mono ?_); rintro e w1 ⟨rfl, rfl⟩; generalize (w.alloc (.cells C 52)) = W0 at *)
  | fail)
 go_region
 all_goals go_wp2_with fail
 go_ret
 exact ⟨rfl, HT.out.tc⟩
theorem takeData_any {B : Nat} {w : World} {tb mb : Nat} {G : Int → SM} {T : Tb} (q : TBuf B w tb mb G T) {f : Fr} {vd vr : Value} (h16 : f.t.length = 16) (ha : nat64 f.a) :
  Calls Tryz.prog 45 #[.pointer (some ⟨tb, 0, none⟩), .agg (frC f vd vr)] w fun e w' => TErr B w w' tb mb G T { T with data := max T.data f.a } 0 e := by
 have HB := Lib.hid (FrB.new w f vd vr h16)
 obtain ⟨-, -, b2, -⟩ := HB.out.cells
 have HM0 : Hid (Mod (fun _ => False) w (w.alloc (.cells (frC f vd vr) 52))) := Lib.hid ((Mod.refl _ _).alloc _)
 have q0 := q.still HM0.out
 have k8 : (w.alloc (.cells (frC f vd vr) 52)).cell? ⟨tb, 30, none⟩ = some (.int .u64 (T.data : Int)) := q0.cell 8 rfl
 have f8 : (w.alloc (.cells (frC f vd vr) 52)).frozen? ⟨tb, 30, none⟩ = false := q0.blk.free 30
 have mm : max (T.data : Int) (f.a : Int) = ((max T.data f.a : Nat) : Int) := by omega
 have hx : nat64 (max T.data f.a) := by have := q.num.2.2.2.2.2.2.2.2.2.2.2.1; unfold nat64 at *; omega
 have HT := Lib.hid (((q.stay HM0.out).trans (q0.setData _ hx)).drew)
 have hne : ¬ w.heap.size = tb := fun e => by have := q.blk.lt; omega
 clear q q0 hx ha h16
 generalize frC f vd vr = C at *
 generalize ((max T.data f.a : Nat) : Int) = y at *
 go_enter Tryz.func45, Tryz.ntmps45
 go_wp2_with fail
 generalize (w.alloc (.cells C 52)) = W0 at *
 go_region
 all_goals go_wp2_with fail
 go_ret
 exact ⟨rfl, HT.out.tc⟩
end Go.Proofs.YtolgeghdkoodnaaGreatDoor
set_option maxRecDepth 100000
namespace Go.Proofs.YtolgeghdkoodnaaGreatDoor
open Go.RowKit Go.Maps
def frZu : Array Value := frC ⟨0, 0, 0, 0, 0, false, [], [], List.replicate 16 0⟩ (.slice none 0 0) (.slice none 0 0)
theorem infoFrU : (Tryz.prog.info? 52).map (fun i => (i.zero, i.size, i.bytes)) = some (some (.agg frZu), 24, 112) := by kernel_rfl
def FrI (w : World) (B E : Nat) (f : Fr) (cs : List Value) : Prop := ∃ vd, cs = frL f vd (.slice none 0 0) ∧ OwnB w B vd f.d ∧ (∀ g, vd.ownBlock = some g → g < E) ∧ f.rs = [] ∧ f.t.length = 16
theorem FrI.kept {S : Nat → Prop} {w w' : World} {B E : Nat} {f : Fr} {cs : List Value} (h : FrI w B E f cs) (hM : Mod S w w') (hS : ∀ b C, Blk w b C 5 → B ≤ b → b < E → ¬ S b) : FrI w' B E f cs := by
 obtain ⟨vd, h1, h2, h3, h4⟩ := h
 refine ⟨vd, h1, hM.own h2 (fun g hg e => ?_), h3, h4⟩
 have hE := h3 g hg
 rcases h2.2 with ⟨rfl, _⟩ | ⟨g', cap, cur, rfl, hb, hgg, _⟩
 ·simp [Value.ownBlock] at hg
 ·simp [Value.ownBlock] at hg; subst hg
  exact hS _ _ (show Blk w g' cur 5 from hgg) hb hE e
theorem FrI.more {w : World} {B B' E E' : Nat} {f : Fr} {cs : List Value} (h : FrI w B E f cs) (hE : E ≤ E') (hB : B' ≤ B) : FrI w B' E' f cs := by
 obtain ⟨vd, h1, h2, h3, h4⟩ := h
 exact ⟨vd, h1, h2.base hB, fun g hg => Nat.lt_of_lt_of_le (h3 g hg) hE, h4⟩
theorem FrI.len {w : World} {B E : Nat} {f : Fr} {cs : List Value} (h : FrI w B E f cs) : cs.length = 24 := by
 obtain ⟨vd, rfl, _, _, _, h4⟩ := h
 simp [frL, h4]
theorem FrI.one {w : World} {B E : Nat} {f : Fr} {cs : List Value} (h : FrI w B E f cs) : ∀ u ∈ cs, u.oneCell' = true := by
 obtain ⟨vd, rfl, h2, _, _, h4⟩ := h
 obtain ⟨da, dc, rfl, _⟩ := Sl.val h2.byts
 intro v hv
 simp only [frL, List.mem_append, List.mem_cons, List.not_mem_nil, or_false] at hv
 rcases hv with (rfl | rfl | rfl | rfl | rfl | rfl | rfl | rfl) | hv <;> try rfl
 exact bv_one _ _ hv
theorem FrI.frv {w : World} {B E : Nat} {f : Fr} {cs : List Value} (h : FrI w B E f cs) (hl : (f.d.length : Int) ≤ 140737488355328) : ∃ vd, cs = frL f vd (.slice none 0 0) ∧ FrV w f vd (.slice none 0 0) := by
 obtain ⟨vd, h1, h2, _, h4, h5⟩ := h
 refine ⟨vd, h1, ⟨h2.byts, ?_, h5, hl, by rw [h4]; decide⟩⟩
 rw [h4]
 exact ⟨rfl, none, 0, rfl, Nat.le_refl _, by decide, fun _ => rfl, fun j u hu => by simp at hu⟩
def FrsI (w : World) (B E : Nat) : List Fr → List (List Value) → Prop
 | [], css => css = []
 | f :: l, css => ∃ c cs, css = c :: cs ∧ FrI w B E f c ∧ FrsI w B E l cs
theorem FrsI.kept {S : Nat → Prop} {w w' : World} {B E : Nat} (hM : Mod S w w') (hS : ∀ b C, Blk w b C 5 → B ≤ b → b < E → ¬ S b) : ∀ {l : List Fr} {css : List (List Value)}, FrsI w B E l css → FrsI w' B E l css
 | [], _, h => h
 | _ :: _, _, ⟨c, cs, h1, h2, h3⟩ => ⟨c, cs, h1, h2.kept hM hS, h3.kept hM hS⟩
theorem FrsI.more {w : World} {B B' E E' : Nat} (hE : E ≤ E') (hB : B' ≤ B) : ∀ {l : List Fr} {css : List (List Value)}, FrsI w B E l css → FrsI w B' E' l css
 | [], _, h => h
 | _ :: _, _, ⟨c, cs, h1, h2, h3⟩ => ⟨c, cs, h1, h2.more hE hB, h3.more hE hB⟩
theorem FrsI.snoc {w : World} {B E : Nat} : ∀ {l : List Fr} {css : List (List Value)} {f : Fr} {c : List Value}, FrsI w B E l css → FrI w B E f c → FrsI w B E (l ++ [f]) (css ++ [c])
 | [], _, f, c, h, hc => by
  have : _ = [] := h
  subst this
  exact ⟨c, [], rfl, hc, rfl⟩
 | g :: l, _, f, c, ⟨d, cs, h1, h2, h3⟩, hc => by
  subst h1
  exact ⟨d, cs ++ [c], rfl, h2, h3.snoc hc⟩
theorem FrsI.len {w : World} {B E : Nat} : ∀ {l : List Fr} {css : List (List Value)}, FrsI w B E l css → css.length = l.length ∧ css.flatten.length = l.length * 24
 | [], _, h => by
  have : _ = [] := h
  subst this
  simp
 | f :: l, _, ⟨c, cs, h1, h2, h3⟩ => by
  subst h1
  obtain ⟨e1, e2⟩ := h3.len
  have h24 := h2.len
  rw [List.flatten_cons, List.length_append, List.length_cons, List.length_cons]
  omega
theorem FrsI.at {w : World} {B E : Nat} : ∀ {l : List Fr} {css : List (List Value)} {i : Nat} {f : Fr}, FrsI w B E l css → l[i]? = some f → ∃ c, FrI w B E f c ∧ ∀ j, j < 24 → css.flatten[i * 24 + j]? = c[j]?
 | [], _, i, f, _, hi => by simp at hi
 | g :: l, _, 0, f, ⟨d, cs, h1, h2, h3⟩, hi => by
  subst h1
  simp at hi
  subst hi
  refine ⟨d, h2, fun j hj => ?_⟩
  rw [List.flatten_cons, List.getElem?_append_left (by rw [h2.len]; omega)]
  congr 1
  omega
 | g :: l, _, i + 1, f, ⟨d, cs, h1, h2, h3⟩, hi => by
  subst h1
  obtain ⟨c, hc, he⟩ := h3.at (i := i) (f := f) (by simpa using hi)
  refine ⟨c, hc, fun j hj => ?_⟩
  rw [List.flatten_cons, List.getElem?_append_right (by rw [h2.len]; omega), h2.len, ← he j hj]
  congr 1
  omega
def OwnFI (w : World) (B E : Nat) (v : Value) (l : List Fr) : Prop := (∃ css, FrsI w B E l css ∧ w.ownsRow B 52 24 v l.length css.flatten) ∧ (∀ g, v.ownBlock = some g → g < E)
theorem OwnFI.nil (w : World) (B E : Nat) : OwnFI w B E (.slice none 0 0) [] := ⟨⟨[], rfl, World.ownsRow_nil _ _ _ _⟩, fun g h => by simp [Value.ownBlock] at h⟩
theorem OwnFI.more {w : World} {B B' E E' : Nat} {v : Value} {l : List Fr} (h : OwnFI w B E v l) (hE : E ≤ E') (hB : B' ≤ B) : OwnFI w B' E' v l := by
 obtain ⟨⟨css, h1, h2⟩, h3⟩ := h
 refine ⟨⟨css, h1.more hE hB, h2.1, ?_⟩, fun g hg => Nat.lt_of_lt_of_le (h3 g hg) hE⟩
 rcases h2.2 with h' | ⟨g, cap, cur, e1, e2, e3⟩
 ·exact .inl h'
 ·exact .inr ⟨g, cap, cur, e1, Nat.le_trans hB e2, e3⟩
theorem OwnFI.lt {w : World} {B E : Nat} {v : Value} {l : List Fr} (h : OwnFI w B E v l) : ∀ g, v.ownBlock = some g → B ≤ g ∧ g < w.heap.size := by
 obtain ⟨⟨css, _, h2⟩, _⟩ := h
 exact fun g hg => World.ownsRow.lt h2 g hg
theorem OwnFI.kept {S : Nat → Prop} {w w' : World} {B E : Nat} {v : Value} {l : List Fr} (h : OwnFI w B E v l) (hM : Mod S w w') (hS : ∀ b, B ≤ b → b < E → ¬ S b) : OwnFI w' B E v l := by
 have hlt := h.lt
 obtain ⟨⟨css, h1, h2⟩, h3⟩ := h
 exact ⟨⟨css, h1.kept hM (fun b _ _ hB hE => hS b hB hE), hM.own h2 (fun g hg => hS g (hlt g hg).1 (h3 g hg))⟩, h3⟩
theorem OwnFI.still {w w' : World} {B E : Nat} {v : Value} {l : List Fr} (h : OwnFI w B E v l) (hM : Mod (fun _ => False) w w') : OwnFI w' B E v l := h.kept hM (fun _ _ _ h => h)
theorem OwnFI.val {w : World} {B E : Nat} {v : Value} {l : List Fr} (h : OwnFI w B E v l) : ∃ a cap, v = .slice a l.length cap := by
 obtain ⟨⟨css, _, h2⟩, _⟩ := h
 obtain ⟨a, cap, e, _⟩ := Sl.val (Sl.ofOwn h2)
 exact ⟨a, cap, e⟩
theorem OwnFI.apart {w : World} {B E b : Nat} {v : Value} {l : List Fr} {C : Array Value} {T : TypeId} (h : OwnFI w B E v l) (hb : Blk w b C T) (ht : T ≠ 52) : ¬ v.ownBlock = some b := by
 obtain ⟨⟨css, _, h2⟩, _⟩ := h
 intro e
 rcases h2.2 with ⟨rfl, _⟩ | ⟨g, cap, cur, rfl, _, hg, _⟩
 ·simp [Value.ownBlock] at e
 ·simp [Value.ownBlock] at e
  subst e
  exact Blk.ne hb (show Blk w g cur 52 from hg) ht rfl
theorem OwnFI.at {w : World} {B E i n cap : Nat} {a : Option Addr} {l : List Fr} {f : Fr} (h : OwnFI w B E (.slice a n cap) l) (hi : l[i]? = some f) : ∃ g c, a = some ⟨g, 0, none⟩ ∧ FrI w B E f c ∧ w.rangeAt g (i * 24) c := by
 obtain ⟨⟨css, h1, h2⟩, h3⟩ := h
 have hlt := (List.getElem?_eq_some_iff.1 hi).1
 obtain ⟨c, hc, he⟩ := h1.at hi
 rcases h2.2 with ⟨e, h0⟩ | ⟨g, cap', cur, e, _⟩
 ·omega
 ·have hn : n = l.length := by simp at e; exact e.2.1
  subst hn
  obtain rfl : a = some ⟨g, 0, none⟩ := by simpa using And.left (by simpa using e)
  refine ⟨g, c, rfl, hc, fun j u hu => ?_⟩
  have hj : j < 24 := by rw [← hc.len]; exact (List.getElem?_eq_some_iff.1 hu).1
  have := World.ownsRow.cellAt h2 (i * 24 + j) (by omega)
  rw [this, he j hj, hu]
theorem fr_litI (w : World) {f : Fr} {vd vr : Value} (h : f.t.length = 16) : Sl (w.alloc (.cells (frC f vd vr) 52)) 24 (.slice (some ⟨w.heap.size, 0, none⟩) 1 1) 1 (frL f vd vr) := by
 have hb := Blk.new w (frC f vd vr) 52
 refine ⟨by simp [frL, h], some ⟨w.heap.size, 0, none⟩, 1, rfl, Nat.le_refl _, by decide, fun e => by simp at e, fun j u hu => ⟨w.heap.size, 0, rfl, ?_⟩⟩
 rw [Nat.zero_add]
 exact hb.cellAt j (by simpa [frC] using hu)
theorem OwnFI.grown {w w' : World} {B E : Nat} {v : Value} {l : List Fr} (h : OwnFI w B E v l) {f : Fr} {cs : List Value} (hf : FrI w B E f cs) (hg : w.grownBy w' v.ownBlock) {v' : Value} {css : List (List Value)} (h1 : FrsI w B E l css) (ho : w'.ownsRow B 52 24 v' (l.length + 1) (css.flatten ++ cs)) (hsz : E ≤ w'.heap.size) : OwnFI w' B w'.heap.size v' (l ++ [f]) := by
 have hM : Mod (fun j => v.ownBlock = some j) w w' := (Mod.refl (fun j => v.ownBlock = some j) _).grown hg (fun k hk _ => hk)
 have hS : ∀ b C, Blk w b C 5 → B ≤ b → b < E → ¬ v.ownBlock = some b := fun b C hb _ _ e => h.apart hb (by decide) e
 refine ⟨⟨css ++ [cs], ((h1.kept hM hS).snoc (hf.kept hM hS)).more hsz (Nat.le_refl _), by simpa using ho⟩, fun g hg => (World.ownsRow.lt ho g hg).2⟩
theorem wpList_append_fi {w : World} {ops : Array Oper} {rest : List Oper} {o : Oper} {a : Act} {Q : Exit → Act → World → Prop} (hgd : o.guard = none) (s x : Operand)
  (ho : o.op = .call { callee := .builtin .append, args := #[s, x], argTypes := #[47, 47] })
  (v : Value) (l : List Fr) (B E : Nat) (hs : a.eval s = v) (hown : OwnFI w B E v l)
  (sv : Value) (f : Fr) (cs : List Value) (hx : a.eval x = sv) (hsl : Sl w 24 sv 1 cs) (hf : FrI w B E f cs) (hE : E ≤ w.heap.size) (n : Nat) (hln : l.length = n) (hn : n ≤ 100000) (hbase : B ≤ w.heap.size)
  (h : ∀ ap cp w', OwnFI w' B w'.heap.size (.slice ap (n + 1) cp) (l ++ [f]) → w.grownBy w' v.ownBlock → wpList Tryz.prog ops Q rest (a.put o.dst (.slice ap (n + 1) cp)) w') : wpList Tryz.prog ops Q (o :: rest) a w := by
 subst hln
 have hall := hown
 obtain ⟨⟨css, h1, h2⟩, h3⟩ := hown
 obtain ⟨i0, hi, hz0, hz1, hz2⟩ := info_parts infoFrU
 refine wpList_append_sl hgd s x 47 ho B 52 i0 _ 24 112 Tryz.underlying47 hi hz0 hz1 hz2 rfl (by decide) v l.length css.flatten hs h2 sv 1 cs hx hsl hf.one (by omega) (by decide) hbase ?_
 intro v' w' ho' hg
 have ho2 := hall.grown hf hg h1 ho' (Nat.le_trans hE hg.size)
 obtain ⟨ap, cp, rfl, _⟩ := Sl.val (Sl.ofOwn ho')
 exact h ap cp w' ho2 hg
theorem wpList_build_fi {w : World} {ops : Array Oper} {rest : List Oper} {o : Oper} {a : Act} {Q : Exit → Act → World → Prop} (hgd : o.guard = none) (x : Operand)
  (ho : o.op = .buildSlice 47 1 #[(0, x)]) (f : Fr) (vd vr : Value) (h16 : f.t.length = 16) (hx : a.eval x = .agg (frC f vd vr))
  (h : wpList Tryz.prog ops Q rest (a.put o.dst (.slice (some ⟨w.heap.size, 0, none⟩) 1 1)) (w.alloc (.cells (frC f vd vr) 52))) : wpList Tryz.prog ops Q (o :: rest) a w := by
 obtain ⟨i0, hi, hz0, hz1, hz2⟩ := info_parts infoFrU
 refine wpList_buildSlice hgd 47 52 1 #[(0, x)] ho (frC f vd vr) i0 _ Tryz.underlying47 hi hz0 (by rw [hz1]; decide) (by rw [hz1]; decide) ?_ h
 rw [hz1]
 have e := Go.Great.fill_whole (s := 24) (by decide) [Value.agg (frC f vd vr)] ((Array.range (1 * 24)).map ((Value.agg frZu).cells[· % (Value.agg frZu).cells.size]!)) (fun v hv => by
  have := List.mem_singleton.1 hv
  subst this
  exact frC_size f vd vr h16) (by rw [Array.size_map, Array.size_range]; rfl)
 have e2 : (#[(0, x)].map fun (p : Nat × Operand) => (p.1, a.eval p.2)).toList = (([Value.agg (frC f vd vr)].zipIdx 0).map fun x => (x.2, x.1)) := by
  simp [hx]
 refine Eq.trans (congrArg _ e2) (e.trans ?_)
 simp [Value.cells]
end Go.Proofs.YtolgeghdkoodnaaGreatDoor
set_option maxRecDepth 100000
namespace Go.Proofs.YtolgeghdkoodnaaGreatDoor
open Go.RowKit Go.Maps
def overS (s : St) (c : Nat) : St := { s with over := true, in2 := c, taken := topS s }
def resetT (T : Tb) (id a c : Nat) : Tb :=
 { comeT T id a [] true with m := updM (comeT T id a [] true).m id (overS ((comeT T id a [] true).m id) c), read := (comeT T id a [] true).read + (topS ((comeT T id a [] true).m id) - ((comeT T id a [] true).m id).taken), tell := true }
theorem comeT_inn (T : Tb) (id a : Nat) (data : List UInt8) (last : Bool) : ((comeT T id a data last).m id).inn = some (putI (inO T id) a data last) ∧ (id : Int) ∈ (comeT T id a data last).dom := by
 unfold comeT
 split
 ·rename_i h
  exact ⟨by show (updM _ _ _ _).inn = _; rw [updM_same], h⟩
 ·exact ⟨by show (updM _ _ _ _).inn = _; rw [updM_same], mem_putD.2 (.inl rfl)⟩
def over1 (s : St) (c : Nat) : St := { s with over := true, in2 := c }
theorem TBuf.strU {B : Nat} {w : World} {tb mb : Nat} {G : Int → SM} {T : Tb} {z : Int} {s : St} (q : TBuf B w tb mb G { T with m := updM T.m z s }) (hz : z ∈ T.dom) : SBuf B w (G z) s := by
 have := q.strs z hz
 have e : (updM T.m z s) z = s := updM_same _ _ _
 rw [← e]
 exact this
theorem TBuf.setRead {B : Nat} {w : World} {tb mb : Nat} {G : Int → SM} {T : Tb} (q : TBuf B w tb mb G T) (n : Nat) (h : nat64 n) : TT B w (w.setCell ⟨tb, 31, none⟩ (.int .u64 (n : Int))) tb mb G G T { T with read := n } :=
 q.setTT { T with read := n } 9 (.int .u64 (n : Int)) rfl rfl rfl rfl rfl (by
  have hn := q.num
  exact ⟨hn.1, hn.2.1, hn.2.2.1, hn.2.2.2.1, hn.2.2.2.2.1, hn.2.2.2.2.2.1, hn.2.2.2.2.2.2.1, hn.2.2.2.2.2.2.2.1, hn.2.2.2.2.2.2.2.2.1, hn.2.2.2.2.2.2.2.2.2.1, hn.2.2.2.2.2.2.2.2.2.2.1, hn.2.2.2.2.2.2.2.2.2.2.2.1, h⟩)
set_option maxHeartbeats 1000000 in
theorem takeReset_any {B : Nat} {w : World} {tb mb : Nat} {G : Int → SM} {T : Tb} (q : TBuf B w tb mb G T) {f : Fr} {vd vr : Value} (h16 : f.t.length = 16) (hi : (f.id : Int) < 4611686018427387912) (hs : Small T) (hc : ComeOk T f.id f.a 0 true) (hcode : nat64 f.c)
  (hk : ((comeT T f.id f.a [] true).m f.id).taken ≤ topS ((comeT T f.id f.a [] true).m f.id)) (hk2 : topS ((comeT T f.id f.a [] true).m f.id) ≤ 1000000) :
  Calls Tryz.prog 42 #[.pointer (some ⟨tb, 0, none⟩), .agg (frC f vd vr)] w fun e w' => TErr B w w' tb mb G T (resetT T f.id f.a f.c) 0 e := by
 have HB := Lib.hid (FrB.new w f vd vr h16)
 obtain ⟨-, -, -, -, b4, -⟩ := HB.out.cells
 have HM0 : Hid (Mod (fun _ => False) w (w.alloc (.cells (frC f vd vr) 52))) := Lib.hid ((Mod.refl _ _).alloc _)
 have HQ := Lib.hid q
 have HCO := Lib.hid (come_any (q.still HM0.out) (f := f) (vd := vd) (vr := vr) (dv := .slice none 0 0) (data := []) (last := true) h16 (Sl.ofOwn (OwnB.nilI w 0) |> fun h => byts_kept h HM0.out) hi hs hc)
 have HSZ := Lib.hid (sizeFrR f vd vr h16)
 have HBL := Lib.hid HB.out.blk
 have hread : (comeT T f.id f.a [] true).read = T.read := by unfold comeT; split <;> rfl
 have HREAD := Lib.hid (And.intro hread hs.read)
 obtain ⟨hinn, hdom⟩ := comeT_inn T f.id f.a [] true
 generalize ho : putI (inO T f.id) f.a [] true = o at *
 have HINN := Lib.hid hinn
 have HDOM := Lib.hid hdom
 have HK := Lib.hid (And.intro hk (And.intro hk2 hcode))
 have HQB : Hid (∀ k, TS tb mb G T k → k < w.heap.size) := Lib.hid (fun k hk => (q.lt k hk).2)
 clear q hs hc hi h16 hk hk2 hcode ho hinn hdom hread
 have HRT : Hid (resetT T f.id f.a f.c = { comeT T f.id f.a [] true with m := updM (comeT T f.id f.a [] true).m f.id (overS ((comeT T f.id f.a [] true).m f.id) f.c), read := (comeT T f.id f.a [] true).read + (topS ((comeT T f.id f.a [] true).m f.id) - ((comeT T f.id f.a [] true).m f.id).taken), tell := true }) := Lib.hid rfl
 generalize comeT T f.id f.a [] true = T1 at *
 generalize frC f vd vr = C at *
 go_enter Tryz.func42, Tryz.ntmps42
 go_wp2_with (first
  | ((with_reducible refine wpList_load_blk ?_ 52 (.tmp 3) ?_ w.heap.size ?_ C 52 _ HBL.out Tryz.underlying52 ?_ HSZ.out ?_); (· exact rfl); (· exact rfl); (· exact rfl); (· exact rfl))
  | (go_at_call 77; (with_reducible refine HCO.out.mono ?_); rintro e w1 ⟨G1, rfl, hT⟩; have HT := Lib.hid hT; have b4' : w1.cell? ⟨w.heap.size, 4, none⟩ = some (.int .u64 (f.c : Int)) := hT.2.2.cellAt b4 (fun h => absurd (HQB.out _ h) (Nat.lt_irrefl _)); clear hT)
  | fail)
 have hs := HT.out.1.strs _ HDOM.out
 have hn := hs.num
 have k5 : w1.cell? ⟨(G1 f.id).sb, 5, none⟩ = some (.bool (T1.m f.id).over) := hs.blk.cellAt 5 rfl
 have k7 : w1.cell? ⟨(G1 f.id).sb, 7, none⟩ = some (.int .u64 ((T1.m f.id).in2 : Int)) := hs.blk.cellAt 7 rfl
 have f5 : w1.frozen? ⟨(G1 f.id).sb, 5, none⟩ = false := hs.blk.free 5
 have f7 : w1.frozen? ⟨(G1 f.id).sb, 7, none⟩ = false := hs.blk.free 7
 have x1 := hs.cell 5 (.bool true) (s' := { T1.m f.id with over := true }) rfl rfl rfl (fun _ => rfl) hn
 have x2 := x1.1.cell 7 (.int .u64 (f.c : Int)) (s' := over1 (T1.m f.id) f.c) rfl rfl rfl (fun _ => rfl) ⟨hn.1, hn.2.1, hn.2.2.1, HK.out.2.2, hn.2.2.2.2.1, hn.2.2.2.2.2⟩
 have HT2 := Lib.hid ((HT.out.trans (SC.tt HT.out.1 HDOM.out (x1.trans x2))).drew)
 clear x1 x2 hs hn
 go_region
 all_goals skip
 clear b4' k5 k7 f5 f7
 generalize ((w1.setCell ⟨(G1 f.id).sb, 5, none⟩ (.bool true)).setCell ⟨(G1 f.id).sb, 7, none⟩ (.int .u64 (f.c : Int))).drew = W2 at *
 have HS2 := Lib.hid (HT2.out.1.strU HDOM.out)
 have k31 : W2.cell? ⟨tb, 31, none⟩ = some (.int .u64 (T1.read : Int)) := HT2.out.1.cell 9 rfl
 have f31 : W2.frozen? ⟨tb, 31, none⟩ = false := HT2.out.1.blk.free 31
 have k1 : W2.cell? ⟨(G1 f.id).sb, 1, none⟩ = some (ptrI (G1 f.id).ib (over1 (T1.m f.id) f.c).inn) := HS2.out.blk.cellAt 1 rfl
 have k13 : W2.cell? ⟨(G1 f.id).sb, 13, none⟩ = some (.int .u64 ((T1.m f.id).taken : Int)) := HS2.out.blk.cellAt 13 rfl
 have hin2 : (over1 (T1.m f.id) f.c).inn = some o := HINN.out
 rw [hin2] at k1
 unfold ptrI at k1
 have htop : topS (T1.m f.id) = o.top := by unfold topS; rw [HINN.out]; rfl
 have hkk := HK.out
 rw [htop] at hkk
 have hrr := HREAD.out
 have u1 : IntKind.u64.wrap ((o.top : Int) - ((T1.m f.id).taken : Int)) = ((o.top - (T1.m f.id).taken : Nat) : Int) := by rw [IntWalk.u64_in _ (by omega)]; omega
 have u2 : IntKind.u64.wrap ((T1.read : Int) + ((o.top - (T1.m f.id).taken : Nat) : Int)) = ((T1.read + (o.top - (T1.m f.id).taken) : Nat) : Int) := by rw [IntWalk.u64_in _ (by omega)]; push_cast; rfl
 have x3 : nat64 (T1.read + (o.top - (T1.m f.id).taken)) := by unfold nat64; omega
 have HTOP := Lib.hid (fun W (hm : Mod (fun _ => False) W2 W) => itop_any ((HS2.out.inn o hin2).still hm))
 have hne : ¬ (G1 f.id).sb = tb := (HT2.out.1.tops _ HDOM.out _ (.inl rfl)).1
 have HX3 := Lib.hid x3
 clear hkk hrr x3
 obtain ⟨rd, hrd⟩ : ∃ rd : Int, rd = ((T1.read + (o.top - (T1.m f.id).taken) : Nat) : Int) := ⟨_, rfl⟩
 rw [← hrd] at u2
 have HRD := Lib.hid hrd
 obtain ⟨df, hdf⟩ : ∃ df : Int, df = ((o.top - (T1.m f.id).taken : Nat) : Int) := ⟨_, rfl⟩
 rw [← hdf] at u1 u2
 clear hrd hdf
 go_upto_region 4 with fail
 refine wp_region_last (S := fun X => W2.drew = X) 17 (by kernel_rfl) rfl (fun hS => ?_)
 have HMY : Hid (Mod (fun _ => False) W2 W2.drew) := Lib.hid ((Mod.refl _ _).drew)
 have HT3 := Lib.hid ((HT2.out.trans (HT2.out.1.stay HMY.out)).trans ((HT2.out.1.still HMY.out).setRead _ HX3.out))
 have j31 : W2.drew.cell? ⟨tb, 31, none⟩ = some (.int .u64 (T1.read : Int)) := k31
 have g31 : W2.drew.frozen? ⟨tb, 31, none⟩ = false := f31
 have j1 : W2.drew.cell? ⟨(G1 f.id).sb, 1, none⟩ = some (.pointer (some ⟨(G1 f.id).ib, 0, none⟩)) := k1
 have j13 : W2.drew.cell? ⟨(G1 f.id).sb, 13, none⟩ = some (.int .u64 ((T1.m f.id).taken : Int)) := k13
 have HTOY := Lib.hid (HTOP.out _ HMY.out)
 clear k31 f31 k1 k13
 generalize W2.drew = Y at *
 rw [← HRD.out] at HT3
 refine' takeRL (i := 0) (v := _) (some 23) rfl rfl (by kernel_rfl) (by kernel_rfl) (by kernel_rfl) (by kernel_rfl) (fun _ _ _ h => h) (Or.inl ⟨by rfl, fun X hX => ?_⟩) hS ?_
 rotate_left
 ·go_simp; exact rfl
 (try go_frame)
 refine' takeRL (i := 1) (v := _) (some 24) rfl rfl (by kernel_rfl) (by kernel_rfl) (by kernel_rfl) (by kernel_rfl) (fun _ _ _ h => h) (Or.inl ⟨by rfl, fun X hX => ?_⟩) hS ?_
 rotate_left
 ·go_simp; exact rfl
 (try go_frame)
 refine' takeRL (i := 2) (v := _) (some 25) rfl rfl (by kernel_rfl) (by kernel_rfl) (by kernel_rfl) (by kernel_rfl) (fun _ _ _ h => h) (Or.inl ⟨by rfl, fun X hX => ?_⟩) hS ?_
 rotate_left
 ·go_simp; exact rfl
 (try go_frame)
 refine' takeRL (i := 3) (v := _) (some 26) rfl rfl (by kernel_rfl) (by kernel_rfl) (by kernel_rfl) (by kernel_rfl) (fun _ _ _ h => h) (Or.inl ⟨by rfl, fun X hX => ?_⟩) hS ?_
 rotate_left
 ·have hX := (show Y = X from hX); subst hX; go_simp; exact rfl
 (try go_frame)
 refine' takeRL (i := 4) (v := _) (some 27) rfl rfl (by kernel_rfl) (by kernel_rfl) (by kernel_rfl) (by kernel_rfl) (fun _ _ _ h => h) (Or.inl ⟨by rfl, fun X hX => ?_⟩) hS ?_
 rotate_left
 ·go_simp; exact rfl
 (try go_frame)
 refine' takeRL (i := 5) (v := _) (some 28) rfl rfl (by kernel_rfl) (by kernel_rfl) (by kernel_rfl) (by kernel_rfl) (fun _ _ _ h => h) (Or.inl ⟨by rfl, fun X hX => ?_⟩) hS ?_
 rotate_left
 ·go_simp; exact rfl
 (try go_frame)
 refine' takeRL (i := 6) (v := _) (some 29) rfl rfl (by kernel_rfl) (by kernel_rfl) (by kernel_rfl) (by kernel_rfl) (fun _ _ _ h => h) (Or.inl ⟨by rfl, fun X hX => ?_⟩) hS ?_
 rotate_left
 ·go_simp; exact rfl
 (try go_frame)
 refine' takeRL (i := 7) (v := _) (some 30) rfl rfl (by kernel_rfl) (by kernel_rfl) (by kernel_rfl) (by kernel_rfl) (fun _ _ _ h => h) (Or.inl ⟨by rfl, fun X hX => ?_⟩) hS ?_
 rotate_left
 ·have hX := (show Y = X from hX); subst hX; go_simp; exact rfl
 (try go_frame)
 refine' takeRL (i := 9) (v := _) (some 32) rfl rfl (by kernel_rfl) (by kernel_rfl) (by kernel_rfl) (by kernel_rfl) (fun _ _ _ h => h) (Or.inl ⟨by rfl, fun X hX => ?_⟩) hS ?_
 rotate_left
 ·go_simp; exact rfl
 (try go_frame)
 refine' takeRL (i := 10) (v := _) (some 33) rfl rfl (by kernel_rfl) (by kernel_rfl) (by kernel_rfl) (by kernel_rfl) (fun _ _ _ h => h) (Or.inl ⟨by rfl, fun X hX => ?_⟩) hS ?_
 rotate_left
 ·go_simp; exact rfl
 (try go_frame)
 refine' takeRL (i := 11) (v := _) (some 34) rfl rfl (by kernel_rfl) (by kernel_rfl) (by kernel_rfl) (by kernel_rfl) (fun _ _ _ h => h) (Or.inl ⟨by rfl, fun X hX => ?_⟩) hS ?_
 rotate_left
 ·go_simp; exact rfl
 (try go_frame)
 refine' takeRL (i := 12) (v := _) (some 35) rfl rfl (by kernel_rfl) (by kernel_rfl) (by kernel_rfl) (by kernel_rfl) (fun _ _ _ h => h) (Or.inl ⟨by rfl, fun X hX => ?_⟩) hS ?_
 rotate_left
 ·have hX := (show Y = X from hX); subst hX; go_simp; exact rfl
 (try go_frame)
 refine wpAnyL.ready (rs := [8]) (by kernel_rfl) (by simp) ?_
 refine (AllReadyL.cons (o := ⟨some 31, _, _, _, _, none⟩) rfl (by decide) (fun K hK => ?_) AllReadyL.nil)
 go_simp
 refine HTOY.out.mono ?_
 rintro e w2 ⟨rfl, rfl⟩
 refine hK.out _ _ hS (fun hS => ?_)
 clear hK K
 refine' takeRL (i := 13) (v := _) (some 36) rfl rfl (by kernel_rfl) (by kernel_rfl) (by kernel_rfl) (by kernel_rfl) (fun _ _ _ h => h) (Or.inl ⟨by rfl, fun X hX => ?_⟩) hS ?_
 rotate_left
 ·go_simp; exact rfl
 (try go_frame)
 refine' takeRL (i := 14) (v := _) (some 37) rfl rfl (by kernel_rfl) (by kernel_rfl) (by kernel_rfl) (by kernel_rfl) (fun _ _ _ h => h) (Or.inl ⟨by rfl, fun X hX => ?_⟩) hS ?_
 rotate_left
 ·go_simp; exact rfl
 (try go_frame)
 refine' takeRL (i := 15) (v := _) (some 38) rfl rfl (by kernel_rfl) (by kernel_rfl) (by kernel_rfl) (by kernel_rfl) (fun _ _ _ h => h) (Or.inl ⟨by rfl, fun X hX => ?_⟩) hS ?_
 rotate_left
 ·go_simp; exact rfl
 (try go_frame)
 refine' takeRL (i := 16) (v := _) (some 39) rfl rfl (by kernel_rfl) (by kernel_rfl) (by kernel_rfl) (by kernel_rfl) (fun _ _ _ h => h) (Or.inl ⟨by rfl, fun X hX => ?_⟩) hS ?_
 rotate_left
 ·go_simp; exact rfl
 (try go_frame)
 refine wpAnyL.ready (rs := [17]) (by kernel_rfl) (by simp) ?_
 refine AllReadyL.closing (o := ⟨none, _, _, _, _, none⟩) rfl (fun K hK => ?_)
 go_simp
 refine hK.out _ _ ?_
 clear hK K
 refine wpAnyL.done (by kernel_rfl) ?_ _
 have HS3 := Lib.hid (TBuf.strU (T := { T1 with read := T1.read + (o.top - (T1.m f.id).taken) }) HT3.out.1 HDOM.out)
 have c1 : (Y.setCell ⟨tb, 31, none⟩ (.int .u64 rd)).cell? ⟨(G1 f.id).sb, 1, none⟩ = some (.pointer (some ⟨(G1 f.id).ib, 0, none⟩)) := by
  have := HS3.out.blk.cellAt 1 (v := ptrI (G1 f.id).ib (over1 (T1.m f.id) f.c).inn) rfl
  rw [hin2] at this
  exact this
 have c13 : (Y.setCell ⟨tb, 31, none⟩ (.int .u64 rd)).cell? ⟨(G1 f.id).sb, 13, none⟩ = some (.int .u64 ((T1.m f.id).taken : Int)) := HS3.out.blk.cellAt 13 rfl
 have f13 : (Y.setCell ⟨tb, 31, none⟩ (.int .u64 rd)).frozen? ⟨(G1 f.id).sb, 13, none⟩ = false := HS3.out.blk.free 13
 have c32 : (Y.setCell ⟨tb, 31, none⟩ (.int .u64 rd)).cell? ⟨tb, 32, none⟩ = some (.bool T1.tell) := HT3.out.1.cell 10 rfl
 have f32 : (Y.setCell ⟨tb, 31, none⟩ (.int .u64 rd)).frozen? ⟨tb, 32, none⟩ = false := HT3.out.1.blk.free 32
 have HTOZ := Lib.hid (itop_any (HS3.out.inn o hin2))
 have hsc := HS3.out.cell 13 (.int .u64 (o.top : Int)) (s' := overS (T1.m f.id) f.c) (by unfold overS; rw [htop]; rfl) rfl rfl (fun _ => rfl) (by
  have h1 := HS3.out.num
  refine ⟨h1.1, h1.2.1, h1.2.2.1, h1.2.2.2.1, h1.2.2.2.2.1, ?_⟩
  show nat64 (topS (T1.m f.id))
  have := HK.out.2.1
  unfold nat64
  omega)
 have hz1 : (f.id : Int) ∈ ({ T1 with m := updM T1.m f.id (over1 (T1.m f.id) f.c), read := T1.read + (o.top - (T1.m f.id).taken) } : Tb).dom := HDOM.out
 have hsc2 : SC B (Y.setCell ⟨tb, 31, none⟩ (.int .u64 rd)) ((Y.setCell ⟨tb, 31, none⟩ (.int .u64 rd)).setCell ⟨(G1 f.id).sb, 13, none⟩ (.int .u64 (o.top : Int))) (G1 f.id) (G1 f.id) (({ T1 with m := updM T1.m f.id (over1 (T1.m f.id) f.c), read := T1.read + (o.top - (T1.m f.id).taken) } : Tb).m f.id) (overS (T1.m f.id) f.c) := by
  show SC B _ _ _ _ (updM T1.m f.id (over1 (T1.m f.id) f.c) f.id) _
  rw [updM_same]
  exact hsc
 have t4 := HT3.out.trans (hsc2.tt HT3.out.1 hz1)
 have t5 := t4.trans (t4.1.setTell true)
 have HFIN : Hid (TT B (w.alloc (.cells C 52)) (((Y.setCell ⟨tb, 31, none⟩ (.int .u64 rd)).setCell ⟨(G1 f.id).sb, 13, none⟩ (.int .u64 (o.top : Int))).setCell ⟨tb, 32, none⟩ (.bool true)) tb mb G G1 T (resetT T f.id f.a f.c)) := Lib.hid (by
  rw [HRT.out, htop]
  have e : ({ T1 with m := updM T1.m f.id (overS (T1.m f.id) f.c), read := T1.read + (o.top - (T1.m f.id).taken), tell := true } : Tb) = { ({ ({ T1 with m := updM T1.m f.id (over1 (T1.m f.id) f.c), read := T1.read + (o.top - (T1.m f.id).taken) } : Tb) with m := updM (updM T1.m f.id (over1 (T1.m f.id) f.c)) f.id (overS (T1.m f.id) f.c) } : Tb) with tell := true } := by rw [updM_twice]
  rw [e]
  exact t5)
 clear hsc hsc2 t4 t5 hz1
 have hne2 : ¬ tb = (G1 f.id).sb := fun e => hne e.symm
 generalize Y.setCell ⟨tb, 31, none⟩ (.int .u64 rd) = W3 at *
 go_wp2_with (first
  | (go_at_call 78; (with_reducible refine HTOZ.out.mono ?_); rintro e w2 ⟨rfl, rfl⟩)
  | fail)
 go_ret
 exact ⟨rfl, ((HQ.out.stay HM0.out).trans HFIN.out).tc⟩
end Go.Proofs.YtolgeghdkoodnaaGreatDoor
set_option maxRecDepth 100000
namespace Go.Proofs.YtolgeghdkoodnaaGreatDoor
open Go.RowKit Go.Maps
theorem zero_fn (w : World) : (zeroValue 54).run Tryz.prog w = .ok .nilFunc w := by kernel_rfl
theorem exec_ins {w w' : World} {a : Act} {op : Oper} {m x v : Operand} {t : TypeId} (ho : op.op = .insert t m x v) {mv k e : Value} (hm : a.eval m = mv) (hx : a.eval x = k) (hv : a.eval v = e) (hr : (Instr.mapUpdate t mv k e).run Tryz.prog w = .ok () w') : (execOp a.eval op).run Tryz.prog w = .ok .skip w' := by
 unfold execOp
 simp only [ho, hm, hx, hv, Sem.run_bind, Sem.run_pure, Result.andThen_ok, hr]
def takeF (tb : Nat) (z : Int) : Value :=
 if z = 8 then (.func (.func 41) #[.pointer (some ⟨tb, 0, none⟩)] #[]) else if z = 4 then (.func (.func 42) #[.pointer (some ⟨tb, 0, none⟩)] #[]) else if z = 5 then (.func (.func 43) #[.pointer (some ⟨tb, 0, none⟩)] #[]) else if z = 17 then (.func (.func 44) #[.pointer (some ⟨tb, 0, none⟩)] #[]) else if z = 16 then (.func (.func 45) #[.pointer (some ⟨tb, 0, none⟩)] #[]) else (.func (.func 46) #[.pointer (some ⟨tb, 0, none⟩)] #[])
theorem i64_wfS {z : Int} (h0 : 0 ≤ z) (h1 : z ≤ 100) : (Lit.int .i64 z).wf = true := by
 have e0 : IntKind.i64.min = -9223372036854775808 := by decide
 have e1 : IntKind.i64.max = 9223372036854775807 := by decide
 simp only [Lit.wf, e0, e1, Bool.and_eq_true, decide_eq_true_eq]
 omega
set_option maxHeartbeats 8000000 in
theorem take_by {B : Nat} {w : World} {tb mb : Nat} {G : Int → SM} {T T' : Tb} (q : TBuf B w tb mb G T) {f : Fr} {vd vr : Value} (h16 : f.t.length = 16) {n : Nat} (hk : f.k = 8 ∨ f.k = 4 ∨ f.k = 17 ∨ f.k = 16) (hn : n = if f.k = 8 then 41 else if f.k = 4 then 42 else if f.k = 17 then 44 else 45)
  (hc : ∀ w1, Mod (fun _ => False) w w1 → Calls Tryz.prog n #[.pointer (some ⟨tb, 0, none⟩), .agg (frC f vd vr)] w1 fun e w' => TErr B w1 w' tb mb G T T' 0 e) :
  Calls Tryz.prog 17 #[.pointer (some ⟨tb, 0, none⟩), .agg (frC f vd vr)] w fun e w' => TErr B w w' tb mb G T T' 0 e := by
 have HB := Lib.hid (FrB.new w f vd vr h16)
 have HM0 : Hid (Mod (fun _ => False) w (w.alloc (.cells (frC f vd vr) 52))) := Lib.hid ((Mod.refl _ _).alloc _)
 have HSZ := Lib.hid (sizeFrR f vd vr h16)
 have HQ := Lib.hid q
 have HC := Lib.hid hc
 have hmm := @run_makeMap Tryz.prog
 clear q hc h16
 generalize hC : frC f vd vr = C at *
 have HCC := Lib.hid hC
 clear hC
 have i0 := IMap.made 3 .i64 (w.alloc (.cells C 52)) (fun _ => Value.nilFunc)
 rw [World.size_alloc] at i0
 obtain ⟨v1, r1, i1, m1⟩ := i0.put Tryz.underlying3 (t := 99) (e := 54) (z := 8) (.func (.func 41) #[.pointer (some ⟨tb, 0, none⟩)] #[]) (i64_wfS (by decide) (by decide)) (by decide) Tryz.underlying99
 have R1 := Lib.hid r1
 clear r1
 obtain ⟨v2, r2, i2, m2⟩ := i1.put Tryz.underlying3 (t := 99) (e := 54) (z := 4) (.func (.func 42) #[.pointer (some ⟨tb, 0, none⟩)] #[]) (i64_wfS (by decide) (by decide)) (by simp [putD, maxLen]) Tryz.underlying99
 have R2 := Lib.hid r2
 clear r2
 obtain ⟨v3, r3, i3, m3⟩ := i2.put Tryz.underlying3 (t := 99) (e := 54) (z := 5) (.func (.func 43) #[.pointer (some ⟨tb, 0, none⟩)] #[]) (i64_wfS (by decide) (by decide)) (by simp [putD, maxLen]) Tryz.underlying99
 have R3 := Lib.hid r3
 clear r3
 obtain ⟨v4, r4, i4, m4⟩ := i3.put Tryz.underlying3 (t := 99) (e := 54) (z := 17) (.func (.func 44) #[.pointer (some ⟨tb, 0, none⟩)] #[]) (i64_wfS (by decide) (by decide)) (by simp [putD, maxLen]) Tryz.underlying99
 have R4 := Lib.hid r4
 clear r4
 obtain ⟨v5, r5, i5, m5⟩ := i4.put Tryz.underlying3 (t := 99) (e := 54) (z := 16) (.func (.func 45) #[.pointer (some ⟨tb, 0, none⟩)] #[]) (i64_wfS (by decide) (by decide)) (by simp [putD, maxLen]) Tryz.underlying99
 have R5 := Lib.hid r5
 clear r5
 obtain ⟨v6, r6, i6, m6⟩ := i5.put Tryz.underlying3 (t := 99) (e := 54) (z := 18) (.func (.func 46) #[.pointer (some ⟨tb, 0, none⟩)] #[]) (i64_wfS (by decide) (by decide)) (by simp [putD, maxLen]) Tryz.underlying99
 have R6 := Lib.hid r6
 clear r6
 have HIM := Lib.hid i6
 have HMM := Lib.hid (((((m1.trans m2).trans m3).trans m4).trans m5).trans m6)
 clear i0 i1 i2 i3 i4 i5 i6 m1 m2 m3 m4 m5 m6
 have HFM : Hid (Mod (fun _ => False) w v6) := Lib.hid ((HM0.out.alloc (.map #[] 0)).trans' HMM.out (fun k hk e => by omega))
 have HB6 := Lib.hid ((((Mod.refl (fun k => k = w.heap.size + 1) (w.alloc (.cells C 52))).alloc (.map #[] 0)).trans HMM.out).blk HB.out.blk (fun e => by omega))
 have b0 : v6.cell? ⟨w.heap.size, 0, none⟩ = some (.int .i64 f.k) := HB6.out.cellAt 0 rfl
 rw [HCC.out] at HB6
 have hnl : ∀ y, (if f.k = 8 then some (.func (.func 41) #[.pointer (some ⟨tb, 0, none⟩)] #[]) else if f.k = 4 then some (.func (.func 42) #[.pointer (some ⟨tb, 0, none⟩)] #[]) else if f.k = 17 then some (.func (.func 44) #[.pointer (some ⟨tb, 0, none⟩)] #[]) else some (.func (.func 45) #[.pointer (some ⟨tb, 0, none⟩)] #[])) = some y → (Instr.lookup 99 (.map (some (w.heap.size + 1))) (.int .i64 f.k) true).run Tryz.prog v6 = .ok (.tuple #[y, .bool true]) v6 := fun y hy => by
  have hl := HIM.out.lookok Tryz.underlying3 (t := 99) (e := 54) (z := f.k) (i64_wfS (by omega) (by omega)) Tryz.underlying99 (zero_fn v6)
  rw [hl]
  rcases hk with h | h | h | h <;> rw [h] at hy ⊢ <;> simp [putD, putF] at hy ⊢ <;> exact hy
 have hng : (.func (.func n) #[.pointer (some ⟨tb, 0, none⟩)] #[] : Value) = .func (.func n) #[.pointer (some ⟨tb, 0, none⟩)] #[] := rfl
 have hlk : (Instr.lookup 99 (.map (some (w.heap.size + 1))) (.int .i64 f.k) true).run Tryz.prog v6 = .ok (.tuple #[.func (.func n) #[.pointer (some ⟨tb, 0, none⟩)] #[], .bool true]) v6 := hnl _ (by
  rw [hn]
  rcases hk with h | h | h | h <;> rw [h] <;> rfl)
 have HCV := Lib.hid (HC.out v6 HFM.out)
 clear hnl hng hk
 rcases (show n = 41 ∨ n = 42 ∨ n = 44 ∨ n = 45 by
  rw [hn]; split
  ·exact .inl rfl
  ·split
   ·exact .inr (.inl rfl)
   ·split
    ·exact .inr (.inr (.inl rfl))
    ·exact .inr (.inr (.inr rfl))) with h | h | h | h <;> (
 rw [h] at hlk HCV
 clear hn
 generalize f.k = kk at *
 go_enter Tryz.func17, Tryz.ntmps17
 go_wp2_with (first
  | ((with_reducible refine wpList_skipr ?_ (exec_ins (m := .tmp 10) (x := .const (.int .i64 8)) (v := .tmp 12) ?_ ?_ ?_ ?_ R1.out) ?_); (· exact rfl); (· exact rfl); (· exact rfl); (· exact rfl); (· exact rfl))
  | ((with_reducible refine wpList_skipr ?_ (exec_ins (m := .tmp 10) (x := .const (.int .i64 4)) (v := .tmp 14) ?_ ?_ ?_ ?_ R2.out) ?_); (· exact rfl); (· exact rfl); (· exact rfl); (· exact rfl); (· exact rfl))
  | ((with_reducible refine wpList_skipr ?_ (exec_ins (m := .tmp 10) (x := .const (.int .i64 5)) (v := .tmp 16) ?_ ?_ ?_ ?_ R3.out) ?_); (· exact rfl); (· exact rfl); (· exact rfl); (· exact rfl); (· exact rfl))
  | ((with_reducible refine wpList_skipr ?_ (exec_ins (m := .tmp 10) (x := .const (.int .i64 17)) (v := .tmp 18) ?_ ?_ ?_ ?_ R4.out) ?_); (· exact rfl); (· exact rfl); (· exact rfl); (· exact rfl); (· exact rfl))
  | ((with_reducible refine wpList_skipr ?_ (exec_ins (m := .tmp 10) (x := .const (.int .i64 16)) (v := .tmp 20) ?_ ?_ ?_ ?_ R5.out) ?_); (· exact rfl); (· exact rfl); (· exact rfl); (· exact rfl); (· exact rfl))
  | ((with_reducible refine wpList_skipr ?_ (exec_ins (m := .tmp 10) (x := .const (.int .i64 18)) (v := .tmp 22) ?_ ?_ ?_ ?_ R6.out) ?_); (· exact rfl); (· exact rfl); (· exact rfl); (· exact rfl); (· exact rfl))
  | ((with_reducible refine wpList_load_blk ?_ 52 (.tmp 3) ?_ w.heap.size ?_ C 52 _ HB6.out Tryz.underlying52 ?_ HSZ.out ?_); (· exact rfl); (· exact rfl); (· exact rfl); (· exact rfl))
  | ((with_reducible refine HCV.out.mono ?_); rintro e w1 ⟨rfl, hT⟩; have HT := Lib.hid hT; clear hT)
  | fail)
 go_ret
 exact ⟨rfl, TC.trans (HQ.out.stay HFM.out) HT.out⟩)
end Go.Proofs.YtolgeghdkoodnaaGreatDoor
set_option maxRecDepth 100000
namespace Go.Proofs.YtolgeghdkoodnaaGreatDoor
open Go.RowKit Go.Maps
theorem exec_bu {w : World} {a : Act} {op : Oper} {t : TypeId} {pl : List (Nat × Operand)} (ho : op.op = .build t pl.toArray) (vals : List (Nat × Value)) (hv : pl.map (fun x => (x.1, a.eval x.2)) = vals) (cells : Array Value) (hb : Tryz.prog.built t vals = some cells) : (execOp a.eval op).run Tryz.prog w = .ok (.value (.agg cells)) w := by
 subst hv
 have e : (pl.toArray.map (fun x => (x.1, a.eval x.2))).toList = pl.map (fun x => (x.1, a.eval x.2)) := by simp
 unfold execOp
 simp only [ho, Sem.run_bind]
 rw [run_build w t _ cells (by rw [e]; exact hb)]
 rfl
theorem step_build_fi {w : World} {ops : Array Oper} {o : Oper} {a : Act} {K : Act → World → Prop} {Q : Exit → Act → World → Prop} {E : Prop} (hgd : o.guard = none) (x : Operand)
  (ho : o.op = .buildSlice 47 1 #[(0, x)]) (f : Fr) (vd vr : Value) (h16 : f.t.length = 16) (hx : a.eval x = .agg (frC f vd vr))
  (h : K (a.put o.dst (.slice (some ⟨w.heap.size, 0, none⟩) 1 1)) (w.alloc (.cells (frC f vd vr) 52))) :
  if Region.wanted o (yielded ops a.tmps) = true then Oper.wp Tryz.prog o a w K Q else E := by
 have hw : Region.wanted o (yielded ops a.tmps) = true := by simp [Region.wanted, hgd]
 rw [if_pos hw]
 obtain ⟨i0, hi, hz0, hz1, hz2⟩ := info_parts infoFrU
 refine wp_buildSlice 47 52 1 #[(0, x)] ho (frC f vd vr) i0 _ Tryz.underlying47 hi hz0 (by rw [hz1]; decide) (by rw [hz1]; decide) ?_ h
 rw [hz1]
 have e := Go.Great.fill_whole (s := 24) (by decide) [Value.agg (frC f vd vr)] ((Array.range (1 * 24)).map ((Value.agg frZu).cells[· % (Value.agg frZu).cells.size]!)) (fun v hv => by
  have := List.mem_singleton.1 hv
  subst this
  exact frC_size f vd vr h16) (by rw [Array.size_map, Array.size_range]; rfl)
 have e2 : (#[(0, x)].map fun (p : Nat × Operand) => (p.1, a.eval p.2)).toList = (([Value.agg (frC f vd vr)].zipIdx 0).map fun x => (x.2, x.1)) := by
  simp [hx]
 refine Eq.trans (congrArg _ e2) (e.trans ?_)
 simp [Value.cells]
theorem step_append_fi {w : World} {ops : Array Oper} {o : Oper} {a : Act} {K : Act → World → Prop} {Q : Exit → Act → World → Prop} {E' : Prop} (hgd : o.guard = none) (s x : Operand)
  (ho : o.op = .call { callee := .builtin .append, args := #[s, x], argTypes := #[47, 47] })
  (v : Value) (l : List Fr) (B E : Nat) (hs : a.eval s = v) (hown : OwnFI w B E v l)
  (sv : Value) (f : Fr) (cs : List Value) (hx : a.eval x = sv) (hsl : Sl w 24 sv 1 cs) (hf : FrI w B E f cs) (hE : E ≤ w.heap.size) (n : Nat) (hln : l.length = n) (hn : n ≤ 100000) (hbase : B ≤ w.heap.size)
  (h : ∀ ap cp w', OwnFI w' B w'.heap.size (.slice ap (n + 1) cp) (l ++ [f]) → w.grownBy w' v.ownBlock → K (a.put o.dst (.slice ap (n + 1) cp)) w') :
  if Region.wanted o (yielded ops a.tmps) = true then Oper.wp Tryz.prog o a w K Q else E' := by
 subst hln
 have hall := hown
 obtain ⟨⟨css, h1, h2⟩, h3⟩ := hown
 obtain ⟨i0, hi, hz0, hz1, hz2⟩ := info_parts infoFrU
 refine step_append_sl hgd s x 47 ho B 52 i0 _ 24 112 Tryz.underlying47 hi hz0 hz1 hz2 rfl (by decide) v l.length css.flatten hs h2 sv 1 cs hx hsl hf.one (by omega) (by decide) hbase ?_
 intro v' w' ho' hg
 have ho2 := hall.grown hf hg h1 ho' (Nat.le_trans hE hg.size)
 obtain ⟨ap, cp, rfl, _⟩ := Sl.val (Sl.ofOwn ho')
 exact h ap cp w' ho2 hg
def z16 : List UInt8 := List.replicate 16 0
def resetF (id sent code : Nat) : Fr := ⟨4, id, sent, 0, code, false, [], [], z16⟩
def limitF (id a : Nat) : Fr := ⟨17, id, a, 0, 0, false, [], [], z16⟩
def dataF (a : Nat) : Fr := ⟨16, 0, a, 0, 0, false, [], [], z16⟩
def streamF (id off : Nat) (d : List UInt8) (e : Bool) : Fr := ⟨8, id, off, 0, 0, e, d, [], z16⟩
def nilS : Value := .slice none 0 0
theorem built_reset (id sent code : Nat) : Tryz.prog.built 52 [(0, .int .i64 4), (1, .int .u64 (id : Int)), (4, .int .u64 (code : Int)), (2, .int .u64 (sent : Int))] = some (frC (resetF id sent code) nilS nilS) := by kernel_rfl
theorem built_limit (id a : Nat) : Tryz.prog.built 52 [(0, .int .i64 17), (1, .int .u64 (id : Int)), (2, .int .u64 (a : Int))] = some (frC (limitF id a) nilS nilS) := by kernel_rfl
theorem built_data (a : Nat) : Tryz.prog.built 52 [(0, .int .i64 16), (2, .int .u64 (a : Int))] = some (frC (dataF a) nilS nilS) := by kernel_rfl
theorem built_stream (id off : Nat) (d : List UInt8) (e : Bool) (a : Option Addr) (n c : Nat) : Tryz.prog.built 52 [(0, .int .i64 8), (1, .int .u64 (id : Int)), (2, .int .u64 (off : Int)), (6, .slice a n c), (5, .bool e)] = some (frC (streamF id off d e) (.slice a n c) nilS) := by kernel_rfl
theorem FrI.plain (w : World) (B E : Nat) (f : Fr) (h1 : f.d = []) (h2 : f.rs = []) (h3 : f.t.length = 16) : FrI w B E f (frL f nilS nilS) := ⟨nilS, rfl, by rw [h1]; exact OwnB.nilI _ _, fun g hg => by simp [nilS, Value.ownBlock] at hg, h2, h3⟩
def dueL (s : St) (id : Nat) : List Fr :=
 (if s.tR then [resetF id ((s.out.map sentO).getD 0) s.code] else []) ++ (if s.tM && !s.over then [limitF id ((s.inn.map (fun o => o.read + o.win)).getD 0)] else [])
end Go.Proofs.YtolgeghdkoodnaaGreatDoor
