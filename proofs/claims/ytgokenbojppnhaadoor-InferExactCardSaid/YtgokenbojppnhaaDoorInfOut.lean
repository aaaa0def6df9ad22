/- infer.steps: what its iterator promises. infer.Infer, Out, Params. append of parameters onto parameters; what it leaves. infer.Infer: the loop. infer.Infer, Out, Params: of any definition. -/
import Derived.Test.YtgokenbojppnhaaDoorInfWalk
import Derived.Test.YtgokenbojppnhaaDoorDefPrint3
import Derived.Test.YtgokenbojppnhaaDoorInfSmall
import Derived.Sort.CutIn
namespace Go.Proofs.YtgokenbojppnhaaDoor
open Go.RowKit Go.Shelf
/-- What a round of Infer's loop leaves: KC, and definitions' blocks. -/
structure KD (B : Nat) (w w' : World) : Prop where
  kc : KC B w w'
  defs : ∀ (k : Nat) (cs : Array Value) (fr : Nat × Nat), w.heap[k]? = some (.cells cs 27 fr) → w'.heap[k]? = some (.cells cs 27 fr)
theorem KD.trans {B : Nat} {a b c : World} (h : KD B a b) (k : KD B b c) : KD B a c := ⟨h.kc.trans k.kc, fun i cs fr e => k.defs i cs fr (h.defs i cs fr e)⟩
theorem KD.ext {B : Nat} {w w' : World} (x : Ext w w') : KD B w w' := ⟨KC.ext x, fun k _ _ h => (x.block k (Array.getElem?_eq_some_iff.1 h).1).trans h⟩
theorem KD.put {B : Nat} (W : World) (l : Nat) (o r : Obj) (hB : B ≤ l) (h : W.heap[l]? = some r) (hr : r.isCells = false) : KD B W (W.putObj l o) := by
  have key : ∀ (k : Nat) (cs : Array Value) (t : TypeId) (fr : Nat × Nat), W.heap[k]? = some (.cells cs t fr) → (W.putObj l o).heap[k]? = some (.cells cs t fr) := fun k cs t fr e => by
    have hn : k ≠ l := by rintro rfl; rw [e] at h; cases h; cases hr
    exact (World.putObj_heap_other hn).trans e
  exact ⟨⟨by simp, fun k o' hk e => (World.putObj_heap_other (by omega)).trans e, fun k cs fr e => key k cs _ fr e, fun k cs fr e => key k cs _ fr e, fun k cs fr e => key k cs _ fr e⟩, fun k cs fr e => key k cs _ fr e⟩
theorem Blk.kd {B g : Nat} {w w' : World} {cs : Array Value} (h : Blk w g 27 cs) (c : KD B w w') : Blk w' g 27 cs := c.defs g cs _ h
def StepsAll (s : List Int) (L : List Lay) (xs : List EvV) : Prop := ∃ x ps, inferS true [] 0 s L = .ok x ps ∧ fullS x = true ∧ EvOk s x ps xs
def StepsBad (s : List Int) (L : List Lay) (xs : List EvV) : Prop := ∃ b ys y, b ≠ 0 ∧ inferS true [] 0 s L = .bad b ∧ xs = ys ++ [y] ∧ y.ev.bad = b
theorem steps_any (a1 a2 : Option Addr) (n1 c1 n2 c2 : Nat) (ls : Int) (w : World) :
    Calls Tryd.prog 33 #[.agg #[.slice a1 n1 c1, .slice a2 n2 c2, .int .i64 ls]] w fun e w' => e = .returned (.func (.func 46) #[] #[.pointer (some ⟨w.heap.size, 0, none⟩)]) ∧ w' = w.alloc (.cells #[.slice a1 n1 c1, .slice a2 n2 c2, .int .i64 ls] 27) := by
  go_enter Tryd.func33, Tryd.ntmps33
  go_wp2
  go_ret
  exact ⟨rfl, rfl⟩
set_option maxHeartbeats 1000000 in
set_option maxRecDepth 100000 in
theorem steps_iter (d : Nat) (hd : 1 ≤ d) (A : Nat → Prop) (B Bx n : Nat) (a1 a2 : Option Addr) (c1 c2 : Nat) (ls : Int) (s : List Int) (L : List Lay) (l' : Nat) (w : World) (hL : LaysAt A w n (.slice a2 L.length c2) L) (hA : ∀ b, A b → b < B) (hG : goodS 0 64 L = some l') (hs : fullS s = true) (hR : RowS B w (.slice a1 s.length c1) s) (hB : B ≤ w.heap.size)
    (hb : Blk w Bx 27 #[.slice a1 s.length c1, .slice a2 L.length c2, .int .i64 ls]) :
    IterG Fence.wide d Tryd.prog 46 #[.pointer (some ⟨Bx, 0, none⟩)] encEv (KI B) (KD B) (AtEv B) goEv PreEv (StepsAll s L) (StepsBad s L) w := by
  intro l J Jx W hK hJ hJx hY hj0
  have hb : Blk W Bx 27 #[.slice a1 s.length c1, .slice a2 L.length c2, .int .i64 ls] := hb.kd hK
  have k0 := (hb.cell 0).trans (show _ = some (.slice a1 s.length c1) from rfl)
  have k1 := (hb.cell 1).trans (show _ = some (.slice a2 L.length c2) from rfl)
  have WK := Lib.hid (walk_any n A B l (d - 1) J Jx (.slice a2 L.length c2) L 0 64 l' [] true a1 c1 s [] W (hL.kc hK.kc hA) hA hG (by omega) (by omega) (by simp) hs (hR.kc hK.kc) (by have := hK.kc.size; omega) (by simp [parsOf]) hJ hJx (fun pre x W1 hp hat hj => by
    obtain ⟨fn, tmps, assign, body, hy, hr⟩ := hY pre x W1 hp hat hj
    refine ⟨fn, tmps, assign, body, hy, hr.mono ?_⟩
    rintro e W' (⟨h1, h2, h3, h4⟩ | h)
    · exact .inl ⟨h1, h2, h3, h4.kc⟩
    · exact .inr h) hj0)
  rw [show ba ([] : Bs) = ⟨#[]⟩ from rfl] at WK
  clear hK hb hL hA hG hs hR hB hJ hJx hY hj0
  refine callsIn_of_wp Tryd.func46 rfl trivial ?_ rfl
  simp only [Tryd.ntmps46, List.size_toArray, List.length_cons, List.length_nil, Nat.reduceAdd, Nat.reduceSub, Array.replicate_succ, Array.replicate_zero, List.push_toArray, List.append_toArray, List.nil_append, List.cons_append]
  gi_wp2
  refine ⟨trivial, (callsIn_wide.2 WK.out).mono ?_⟩
  rintro e W4 (⟨x, ps, xa, xc, xs, h1, rfl, h2, h3, h4, h5, h6, h7⟩ | ⟨b, xs, h1, h2, rfl, h3, y, ys, h4, h5⟩)
  · have H : Hid ((∃ xs, StepsAll s L xs ∧ J xs W4) ∨ (∃ pre, StepsBad s L pre ∧ Jx pre W4)) := Lib.hid (.inl ⟨xs, ⟨x, ps, h1, h5, h6⟩, by simpa using h2⟩)
    clear WK h1 h2 h3 h4 h5 h6 h7
    gi_wp2
    refine bodyPost_end (results_none rfl _ _ _) rfl ?_
    exact ⟨⟨_, rfl⟩, H.out⟩
  · have H : Hid ((∃ xs, StepsAll s L xs ∧ J xs W4) ∨ (∃ pre, StepsBad s L pre ∧ Jx pre W4)) := Lib.hid (.inr ⟨xs, ⟨b, ys, y, h1, h2, h4, h5⟩, by simpa using h3⟩)
    clear WK h1 h2 h3 h4 h5
    gi_wp2
    refine bodyPost_end (results_none rfl _ _ _) rfl ?_
    exact ⟨⟨_, rfl⟩, H.out⟩
end Go.Proofs.YtgokenbojppnhaaDoor
namespace Go.Proofs.YtgokenbojppnhaaDoor
open Go.RowKit Go.Shelf
attribute [local go_sem] Oper.semAt_some
/-- What Infer promises. -/
def InferP (base : Nat) (w : World) (e : Ending) (w' : World) : Told → Prop
  | .bad b => e = .returned (.tuple #[.slice none 0 0, .slice none 0 0, .int .i64 b]) ∧ Ext w w'
  | .ok x ps => ∃ xa xc pa pc, e = .returned (.tuple #[.slice xa x.length xc, .slice pa ps.length pc, .int .i64 0]) ∧ Ext w w' ∧ w'.ownsRow base 3 1 (.slice xa x.length xc) x.length (x.map (Value.int .i64)) ∧ ParsAt base w' (.slice pa ps.length pc) ps
theorem good_in {d : DefL} (h : goodD d = true) : 1 ≤ d.input.length ∧ d.input.length ≤ 3 := by
  unfold goodD at h
  simp only [Bool.and_eq_true, decide_eq_true_eq] at h
  exact h.1.1.1
theorem good_layers {d : DefL} (h : goodD d = true) : ∃ l', goodS 0 64 d.layers = some l' := by
  unfold goodD at h
  simp only [Bool.and_eq_true] at h
  exact Option.isSome_iff_exists.1 h.2
set_option maxHeartbeats 4000000 in
set_option maxRecDepth 100000 in
theorem infer_bad1 {A : Nat → Prop} {n : Nat} {w : World} {v : Value} {d : DefL} (h : DefAt A n w v d) (hg : goodD d = false) :
    Calls Tryd.prog 22 #[v] w fun e w' => InferP w.heap.size w e w' (.bad 1) := by
  have GO := Lib.hid (fun u (x : Ext w u) => dgood_any (show DefAt A n u v d from ⟨by obtain ⟨a1, c1, a2, c2, e, hi, hl⟩ := h.is; exact ⟨a1, c1, a2, c2, e, hi.ext x, hl.ext x⟩, fun b hb => Nat.lt_of_lt_of_le (h.below b hb) x.size⟩))
  rw [hg] at GO
  obtain ⟨a1, c1, a2, c2, rfl, -, -⟩ := h.is
  clear h hg
  go_enter Tryd.func22, Tryd.ntmps22
  go_wp2_with fail
  go_step3
  go_wp2_with fail
  refine (GO.out _ (by repeat (first | with_reducible exact Ext.refl _ | with_reducible apply Ext.drew | with_reducible apply Ext.drewN | with_reducible apply Ext.alloc | ((with_reducible refine Ext.setCell ?_ ?_ _); rotate_left; focus (first | (simp; done) | (simp; omega) | omega)) | with_reducible refine Ext.tr ?_ x1 | with_reducible refine Ext.tr ?_ x2 | with_reducible refine Ext.tr ?_ x5 | with_reducible refine Ext.tr ?_ xa | with_reducible refine Ext.tr ?_ xc | with_reducible refine Ext.tr ?_ xf | with_reducible refine Ext.tr ?_ hx | with_reducible assumption))).mono ?_; rintro e v1 ⟨rfl, x1⟩; obtain ⟨c1, f1⟩ := x1.rules; have z1 := x1.size; have k1_0_0 := c1 (w.heap.size) 0 (by first | (simp; done) | (simp; omega) | omega); have q1_0_0 := f1 (w.heap.size) 0 (by first | (simp; done) | (simp; omega) | omega); have k1_0_1 := c1 (w.heap.size) 1 (by first | (simp; done) | (simp; omega) | omega); have q1_0_1 := f1 (w.heap.size) 1 (by first | (simp; done) | (simp; omega) | omega); have k1_0_2 := c1 (w.heap.size) 2 (by first | (simp; done) | (simp; omega) | omega); have q1_0_2 := f1 (w.heap.size) 2 (by first | (simp; done) | (simp; omega) | omega); have k1_1_0 := c1 (w.heap.size + 1) 0 (by first | (simp; done) | (simp; omega) | omega); have q1_1_0 := f1 (w.heap.size + 1) 0 (by first | (simp; done) | (simp; omega) | omega); have k1_2_0 := c1 (w.heap.size + 2) 0 (by first | (simp; done) | (simp; omega) | omega); have q1_2_0 := f1 (w.heap.size + 2) 0 (by first | (simp; done) | (simp; omega) | omega); have k1_3_0 := c1 (w.heap.size + 3) 0 (by first | (simp; done) | (simp; omega) | omega); have q1_3_0 := f1 (w.heap.size + 3) 0 (by first | (simp; done) | (simp; omega) | omega); have z1_0 : w.heap.size < v1.heap.size := (by (try simp at z1); omega); have z1_1 : w.heap.size + 1 < v1.heap.size := (by (try simp at z1); omega); have z1_2 : w.heap.size + 2 < v1.heap.size := (by (try simp at z1); omega); have z1_3 : w.heap.size + 3 < v1.heap.size := (by (try simp at z1); omega); (try simp at z1); clear c1 f1; simp [go_sem, *] at k1_0_0 q1_0_0 k1_0_1 q1_0_1 k1_0_2 q1_0_2 k1_1_0 q1_1_0 k1_2_0 q1_2_0 k1_3_0 q1_3_0
  go_wp2
  rw [Exit.noGoto_ret]
  change bodyPost _ _ _ _ _ _
  obtain ⟨V, hV⟩ : ∃ V, V = (((v1.setCell ⟨w.heap.size + 1, 0, none⟩ (.slice none 0 0)).setCell ⟨w.heap.size + 1 + 1, 0, none⟩ (.slice none 0 0)).setCell ⟨w.heap.size + 1 + 1 + 1, 0, none⟩ (.int .i64 1)) := ⟨_, rfl⟩
  have r1 : V.cell? ⟨w.heap.size + 1, 0, none⟩ = some (.slice none 0 0) := by rw [hV]; simp [go_sem, *]
  have r2 : V.cell? ⟨w.heap.size + 1 + 1, 0, none⟩ = some (.slice none 0 0) := by rw [hV]; simp [go_sem, *]
  have r3 : V.cell? ⟨w.heap.size + 1 + 1 + 1, 0, none⟩ = some (.int .i64 1) := by rw [hV]; simp [go_sem, *]
  have XV : Ext w V := by rw [hV]; exact (by repeat (first | with_reducible exact Ext.refl _ | with_reducible apply Ext.drew | with_reducible apply Ext.drewN | with_reducible apply Ext.alloc | ((with_reducible refine Ext.setCell ?_ ?_ _); rotate_left; focus (first | (simp; done) | (simp; omega) | omega)) | with_reducible refine Ext.tr ?_ x1 | with_reducible refine Ext.tr ?_ x2 | with_reducible refine Ext.tr ?_ x5 | with_reducible refine Ext.tr ?_ xa | with_reducible refine Ext.tr ?_ xc | with_reducible refine Ext.tr ?_ xf | with_reducible refine Ext.tr ?_ hx | with_reducible assumption))
  rw [← hV]
  clear hV
  exact bodyPost_ret (v := .tuple #[.slice none 0 0, .slice none 0 0, .int .i64 1]) (by simp [results, Tryd.results22, go_sem, r1, r2, r3]) rfl ⟨rfl, XV⟩
set_option maxHeartbeats 4000000 in
set_option maxRecDepth 100000 in
theorem infer_bad5 {A : Nat → Prop} {n : Nat} {w : World} {v : Value} {d : DefL} (h : DefAt A n w v d) (hg : goodD d = true) (hf : fullS d.input = false) :
    Calls Tryd.prog 22 #[v] w fun e w' => InferP w.heap.size w e w' (.bad 5) := by
  have GO := Lib.hid (fun u (x : Ext w u) => dgood_any (show DefAt A n u v d from ⟨by obtain ⟨a1, c1, a2, c2, e, hi, hl⟩ := h.is; exact ⟨a1, c1, a2, c2, e, hi.ext x, hl.ext x⟩, fun b hb => Nat.lt_of_lt_of_le (h.below b hb) x.size⟩))
  have hlen := good_in hg
  rw [hg] at GO
  obtain ⟨a1, c1, a2, c2, rfl, hi, -⟩ := h.is
  have FI := Lib.hid (fun u (x : Ext w u) => fits_any (hi.ext x) (by omega))
  rw [hf] at FI
  clear h hg hf hi hlen
  go_enter Tryd.func22, Tryd.ntmps22
  go_wp2_with fail
  go_step3
  go_wp2_with fail
  refine (GO.out _ (by repeat (first | with_reducible exact Ext.refl _ | with_reducible apply Ext.drew | with_reducible apply Ext.drewN | with_reducible apply Ext.alloc | ((with_reducible refine Ext.setCell ?_ ?_ _); rotate_left; focus (first | (simp; done) | (simp; omega) | omega)) | with_reducible refine Ext.tr ?_ x1 | with_reducible refine Ext.tr ?_ x2 | with_reducible refine Ext.tr ?_ x5 | with_reducible refine Ext.tr ?_ xa | with_reducible refine Ext.tr ?_ xc | with_reducible refine Ext.tr ?_ xf | with_reducible refine Ext.tr ?_ hx | with_reducible assumption))).mono ?_; rintro e v1 ⟨rfl, x1⟩; obtain ⟨c1, f1⟩ := x1.rules; have z1 := x1.size; have k1_0_0 := c1 (w.heap.size) 0 (by first | (simp; done) | (simp; omega) | omega); have q1_0_0 := f1 (w.heap.size) 0 (by first | (simp; done) | (simp; omega) | omega); have k1_0_1 := c1 (w.heap.size) 1 (by first | (simp; done) | (simp; omega) | omega); have q1_0_1 := f1 (w.heap.size) 1 (by first | (simp; done) | (simp; omega) | omega); have k1_0_2 := c1 (w.heap.size) 2 (by first | (simp; done) | (simp; omega) | omega); have q1_0_2 := f1 (w.heap.size) 2 (by first | (simp; done) | (simp; omega) | omega); have k1_1_0 := c1 (w.heap.size + 1) 0 (by first | (simp; done) | (simp; omega) | omega); have q1_1_0 := f1 (w.heap.size + 1) 0 (by first | (simp; done) | (simp; omega) | omega); have k1_2_0 := c1 (w.heap.size + 2) 0 (by first | (simp; done) | (simp; omega) | omega); have q1_2_0 := f1 (w.heap.size + 2) 0 (by first | (simp; done) | (simp; omega) | omega); have k1_3_0 := c1 (w.heap.size + 3) 0 (by first | (simp; done) | (simp; omega) | omega); have q1_3_0 := f1 (w.heap.size + 3) 0 (by first | (simp; done) | (simp; omega) | omega); have z1_0 : w.heap.size < v1.heap.size := (by (try simp at z1); omega); have z1_1 : w.heap.size + 1 < v1.heap.size := (by (try simp at z1); omega); have z1_2 : w.heap.size + 2 < v1.heap.size := (by (try simp at z1); omega); have z1_3 : w.heap.size + 3 < v1.heap.size := (by (try simp at z1); omega); (try simp at z1); clear c1 f1; simp [go_sem, *] at k1_0_0 q1_0_0 k1_0_1 q1_0_1 k1_0_2 q1_0_2 k1_1_0 q1_1_0 k1_2_0 q1_2_0 k1_3_0 q1_3_0
  go_wp2_with fail
  refine (FI.out _ (by repeat (first | with_reducible exact Ext.refl _ | with_reducible apply Ext.drew | with_reducible apply Ext.drewN | with_reducible apply Ext.alloc | ((with_reducible refine Ext.setCell ?_ ?_ _); rotate_left; focus (first | (simp; done) | (simp; omega) | omega)) | with_reducible refine Ext.tr ?_ x1 | with_reducible refine Ext.tr ?_ x2 | with_reducible refine Ext.tr ?_ x5 | with_reducible refine Ext.tr ?_ xa | with_reducible refine Ext.tr ?_ xc | with_reducible refine Ext.tr ?_ xf | with_reducible refine Ext.tr ?_ hx | with_reducible assumption))).mono ?_; rintro e v2 ⟨rfl, x2⟩; obtain ⟨c2, f2⟩ := x2.rules; have z2 := x2.size; have k2_0_0 := c2 (w.heap.size) 0 (by first | (simp; done) | (simp; omega) | omega); have q2_0_0 := f2 (w.heap.size) 0 (by first | (simp; done) | (simp; omega) | omega); have k2_0_1 := c2 (w.heap.size) 1 (by first | (simp; done) | (simp; omega) | omega); have q2_0_1 := f2 (w.heap.size) 1 (by first | (simp; done) | (simp; omega) | omega); have k2_0_2 := c2 (w.heap.size) 2 (by first | (simp; done) | (simp; omega) | omega); have q2_0_2 := f2 (w.heap.size) 2 (by first | (simp; done) | (simp; omega) | omega); have k2_1_0 := c2 (w.heap.size + 1) 0 (by first | (simp; done) | (simp; omega) | omega); have q2_1_0 := f2 (w.heap.size + 1) 0 (by first | (simp; done) | (simp; omega) | omega); have k2_2_0 := c2 (w.heap.size + 2) 0 (by first | (simp; done) | (simp; omega) | omega); have q2_2_0 := f2 (w.heap.size + 2) 0 (by first | (simp; done) | (simp; omega) | omega); have k2_3_0 := c2 (w.heap.size + 3) 0 (by first | (simp; done) | (simp; omega) | omega); have q2_3_0 := f2 (w.heap.size + 3) 0 (by first | (simp; done) | (simp; omega) | omega); have z2_0 : w.heap.size < v2.heap.size := (by (try simp at z2); omega); have z2_1 : w.heap.size + 1 < v2.heap.size := (by (try simp at z2); omega); have z2_2 : w.heap.size + 2 < v2.heap.size := (by (try simp at z2); omega); have z2_3 : w.heap.size + 3 < v2.heap.size := (by (try simp at z2); omega); (try simp at z2); clear c2 f2; simp [go_sem, *] at k2_0_0 q2_0_0 k2_0_1 q2_0_1 k2_0_2 q2_0_2 k2_1_0 q2_1_0 k2_2_0 q2_2_0 k2_3_0 q2_3_0
  clear GO FI
  go_wp2
  rw [Exit.noGoto_ret]
  change bodyPost _ _ _ _ _ _
  obtain ⟨V, hV⟩ : ∃ V, V = (((v2.setCell ⟨w.heap.size + 1, 0, none⟩ (.slice none 0 0)).setCell ⟨w.heap.size + 1 + 1, 0, none⟩ (.slice none 0 0)).setCell ⟨w.heap.size + 1 + 1 + 1, 0, none⟩ (.int .i64 5)) := ⟨_, rfl⟩
  have r1 : V.cell? ⟨w.heap.size + 1, 0, none⟩ = some (.slice none 0 0) := by rw [hV]; simp [go_sem, *]
  have r2 : V.cell? ⟨w.heap.size + 1 + 1, 0, none⟩ = some (.slice none 0 0) := by rw [hV]; simp [go_sem, *]
  have r3 : V.cell? ⟨w.heap.size + 1 + 1 + 1, 0, none⟩ = some (.int .i64 5) := by rw [hV]; simp [go_sem, *]
  have XV : Ext w V := by rw [hV]; exact (by repeat (first | with_reducible exact Ext.refl _ | with_reducible apply Ext.drew | with_reducible apply Ext.drewN | with_reducible apply Ext.alloc | ((with_reducible refine Ext.setCell ?_ ?_ _); rotate_left; focus (first | (simp; done) | (simp; omega) | omega)) | with_reducible refine Ext.tr ?_ x1 | with_reducible refine Ext.tr ?_ x2 | with_reducible refine Ext.tr ?_ x5 | with_reducible refine Ext.tr ?_ xa | with_reducible refine Ext.tr ?_ xc | with_reducible refine Ext.tr ?_ xf | with_reducible refine Ext.tr ?_ hx | with_reducible assumption))
  rw [← hV]
  clear hV
  exact bodyPost_ret (v := .tuple #[.slice none 0 0, .slice none 0 0, .int .i64 5]) (by simp [results, Tryd.results22, go_sem, r1, r2, r3]) rfl ⟨rfl, XV⟩
/-- Infer's own cells while its loop runs. -/
structure InfLoc (w W : World) (dv : Array Value) (o : List Int) (ps : List ParamP) (er : Int) (oa pa : Option Addr) (oc pc : Nat) : Prop where
  b0 : Blk W w.heap.size 27 dv
  b1 : Blk W (w.heap.size + 1) 24 #[.slice oa o.length oc]
  b2 : Blk W (w.heap.size + 2) 28 #[.slice pa ps.length pc]
  b3 : Blk W (w.heap.size + 3) 32 #[.int .i64 er]
  row : RowS w.heap.size W (.slice oa o.length oc) o
  pars : ParsAt w.heap.size W (.slice pa ps.length pc) ps
  ext : Ext w W
/-- Blocks of other types than steps', and all below B, lie as they lay. -/
structure Kpt (B : Nat) (w w' : World) : Prop where
  os : w'.os = w.os
  tape : w'.tape = w.tape
  output : w'.output = w.output
  size : w.heap.size ≤ w'.heap.size
  old : ∀ (k : Nat) (o : Obj), k < B → w.heap[k]? = some o → w'.heap[k]? = some o
  cells : ∀ (k : Nat) (cs : Array Value) (t : TypeId) (fr : Nat × Nat), t ≠ 71 → w.heap[k]? = some (.cells cs t fr) → w'.heap[k]? = some (.cells cs t fr)
theorem KI.kpt {B : Nat} {w w' : World} (h : KI B w w') : Kpt B w w' :=
  ⟨h.os, h.tape, h.output, h.size, fun k o hk e => h.block k o e (.inl hk), fun k cs t fr ht e => h.block k _ e (.inr (by rintro ⟨_, _, e2⟩; cases e2; exact ht rfl))⟩
theorem Kpt.grown {B : Nat} {w w' : World} {row : Option Nat} (hg : w.grownBy w' row) (hr : ∀ r, row = some r → B ≤ r ∧ ∃ o : Obj, w.heap[r]? = some o ∧ o.isCells = false) : Kpt B w w' :=
  ⟨hg.os, hg.tape, hg.output, hg.size, fun k o hk e => (hg.block k (Array.getElem?_eq_some_iff.1 e).1 (fun e2 => by have := (hr k e2.symm).1; omega)).trans e, fun k cs t fr _ e => (hg.block k (Array.getElem?_eq_some_iff.1 e).1 (fun e2 => by
    obtain ⟨-, o, h1, h2⟩ := hr k e2.symm
    rw [h1] at e; cases e; cases h2)).trans e⟩
theorem Kpt.ext {w a b : World} (x : Ext w a) (k : Kpt w.heap.size a b) : Ext w b :=
  ⟨k.os.trans x.os, k.tape.trans x.tape, k.output.trans x.output, Nat.le_trans x.size k.size, fun i hi => by
    have e : a.heap[i]? = some w.heap[i] := (x.block i hi).trans (Array.getElem?_eq_getElem hi)
    rw [k.old i _ hi e, Array.getElem?_eq_getElem hi]⟩
theorem Blk.kpt {B g : Nat} {w w' : World} {t : TypeId} {cs : Array Value} (h : Blk w g t cs) (k : Kpt B w w') (ht : t ≠ 71) : Blk w' g t cs := k.cells g cs t _ ht h
theorem RowS.kpt {B : Nat} {w w' : World} {v : Value} {xs : List Int} (h : RowS B w v xs) (k : Kpt B w w') : RowS B w' v xs :=
  h.keep (fun i hi hl => by
    have e : w.heap[i]? = some w.heap[i] := Array.getElem?_eq_getElem hl
    rw [k.old i _ hi e, e]) (fun i cs fr e => k.cells i cs _ fr (by decide) e)
theorem InfLoc.kpt {w W W' : World} {dv : Array Value} {o : List Int} {ps : List ParamP} {er : Int} {oa pa : Option Addr} {oc pc : Nat} (h : InfLoc w W dv o ps er oa pa oc pc) (k : Kpt w.heap.size W W') : InfLoc w W' dv o ps er oa pa oc pc :=
  ⟨h.b0.kpt k (by decide), h.b1.kpt k (by decide), h.b2.kpt k (by decide), h.b3.kpt k (by decide), h.row.kpt k, h.pars.keep (fun i cs fr _ e => k.cells i cs _ fr (by decide) e) (fun i cs fr _ e => k.cells i cs _ fr (by decide) e), Kpt.ext h.ext k⟩
end Go.Proofs.YtgokenbojppnhaaDoor
namespace Go.Proofs.YtgokenbojppnhaaDoor
open Go.RowKit Go.Shelf
theorem wpListIn_append_run {F : Fence} {n : Nat} {P : Program} {w : World} {ops : Array Oper} {rest : List Oper} {o : Oper} {a : Act} {Q : Exit → Act → World → Prop}
    (hg : o.guard = none) (s x : Operand) (t : TypeId) (hop : o.op = Op.call { callee := Callee.builtin Builtin.append, args := #[s, x], argTypes := #[t, t] })
    {v u v' : Value} {w' : World} (hs : a.eval s = v) (hx : a.eval x = u) (hrun : (Builtin.append_ #[t, t] o.type #[v, u]).run P w = .ok v' w') (hK : wpListIn F n P ops Q rest (a.put o.dst v') w') : wpListIn F n P ops Q (o :: rest) a w := by
  refine wpListIn_plain hg fun K hK' => ?_
  unfold Oper.wpIn
  refine ⟨?_, ?_⟩
  · simp [Oper.about, hop, resolve, Target.leads, Sem.run_pure]
  · rw [Oper.semAt_plain F _ _ (by rw [hop]; intro c hc'; cases hc')]
    simp [execOp, hop, resolve, invoke, builtin, hs, hx, hrun, Result.andThen]
    exact hK' _ _ hK
theorem parA_one (p : ParamP) (v : Value) (hv : v.oneCell' = true) : ∀ u ∈ (parA p v).toList, u.oneCell' = true := by
  intro u hu
  simp [parA] at hu
  rcases hu with rfl | rfl | rfl | rfl
  · rfl
  · exact hv
  · rfl
  · rfl
theorem parCells_one {qs : List (ParamP × Value)} (h : ∀ q ∈ qs, q.2.oneCell' = true) : ∀ u ∈ parCells qs, u.oneCell' = true := by
  intro u hu
  obtain ⟨q, hq, hm⟩ := List.mem_flatMap.1 hu
  exact parA_one q.1 q.2 (h q hq) u hm
theorem own_one {w : World} {base : Nat} {e : TypeId} {size : Nat} {v : Value} {n : Nat} {xs : List Value} (h : w.ownsRow base e size v n xs) : v.oneCell' = true := by
  rcases h.2 with ⟨rfl, _⟩ | ⟨g, cap, _, rfl, _⟩ <;> rfl
/-- append of parameters. -/
theorem pars_append {B : Nat} {W : World} {u v : Value} {ps qs : List ParamP} (hp : ParsAt B W v ps) (hq : ParsAt B W u qs) (hl : ps.length + qs.length ≤ 1000) (hB : B ≤ W.heap.size) :
    ∃ pa pc w', (Builtin.append_ #[28, 28] 28 #[v, u]).run Tryd.prog W = .ok (.slice pa (ps ++ qs).length pc) w' ∧ ParsAt B w' (.slice pa (ps ++ qs).length pc) (ps ++ qs) ∧ W.grownBy w' v.ownBlock := by
  obtain ⟨i0, hi0, hz0, hz1, hz2⟩ := info_parts par_info
  obtain ⟨rs, rfl, r1, r2⟩ := hp
  obtain ⟨ss, rfl, s1, s2⟩ := hq
  rw [List.length_map, List.length_map] at hl
  rw [List.length_map] at r1 s1
  have fin : ∀ (v' : Value) (w' : World), w'.ownsRow B 43 4 v' (rs.length + ss.length) (parCells rs ++ parCells ss) → W.grownBy w' v.ownBlock → ∃ pa pc, v' = .slice pa (rs.map Prod.fst ++ ss.map Prod.fst).length pc ∧ ParsAt B w' (.slice pa (rs.map Prod.fst ++ ss.map Prod.fst).length pc) (rs.map Prod.fst ++ ss.map Prod.fst) := by
    intro v' w' ho hg
    obtain ⟨pa, pc, rfl⟩ := own_form2 ho
    have hlen : (rs.map Prod.fst ++ ss.map Prod.fst).length = rs.length + ss.length := by simp
    have kt : KeepT B 3 W w' := fun k cs fr _ e => by
      refine (hg.block k (Array.getElem?_eq_some_iff.1 e).1 (fun e2 => ?_)).trans e
      obtain ⟨-, cs', fr', e3⟩ := own_type r1 k e2.symm
      rw [e3] at e
      cases e
    refine ⟨pa, pc, by rw [hlen], rs ++ ss, by simp, by rw [hlen, parCells_app]; exact ho, fun q hm => ?_⟩
    rcases List.mem_append.1 hm with h | h
    · exact own_keep (r2 q h) kt
    · exact own_keep (s2 q h) kt
  rcases s1.2 with ⟨rfl, h0⟩ | ⟨g, cap, cur, rfl, h2, h3, h4, h5, h6, h7⟩
  · have hs0 : ss = [] := List.length_eq_zero_iff.1 h0
    subst hs0
    obtain ⟨pa, pc, rfl, hpa⟩ := fin v W (by simpa [parCells] using r1) (World.grownBy.refl _ _)
    exact ⟨pa, pc, W, run_append_none' B _ _ _ i0 4 Tryd.underlying28 hi0 _ _ _ r1 0, hpa, World.grownBy.refl _ _⟩
  · obtain ⟨v', w', hr, g1, g2, -⟩ := run_append_own (P := Tryd.prog) (w := W) B 28 28 43 i0 (.agg #[.string ⟨#[]⟩, .slice none 0 0, .int .i64 0, .int .i64 0]) 4 56 Tryd.underlying28 hi0 hz0 hz1 hz2 rfl (by decide) v rs.length (parCells rs) r1 ⟨g, 0, none⟩ ss.length cap (parCells ss) (parCells_len ss) (s1.cells rfl) (parCells_one fun q hq => own_one (s2 q hq)) (by unfold maxLen; omega) (by omega) hB
    obtain ⟨pa, pc, rfl, hpa⟩ := fin v' w' g1 g2
    exact ⟨pa, pc, w', hr, hpa, g2⟩
theorem KD.set {B S o : Nat} {a b : World} {u : Value} {t : TypeId} {cs : Array Value} (c : KD B a b) (hS : Blk b S t cs) (hB : B ≤ S) (h1 : t ≠ 3) (h2 : t ≠ 71) (h3 : t ≠ 52) (h4 : t ≠ 27) : KD B a (b.setCell ⟨S, o, none⟩ u) := by
  have key : ∀ (t' : TypeId) (k : Nat) (ks : Array Value) (fr : Nat × Nat), t ≠ t' → b.heap[k]? = some (.cells ks t' fr) → (b.setCell ⟨S, o, none⟩ u).heap[k]? = some (.cells ks t' fr) := fun t' k ks fr ht e => by
    have hn : k ≠ S := by
      rintro rfl
      unfold Blk at hS
      rw [hS] at e
      cases e
      exact ht rfl
    exact (Below.heap_setCell _ _ _ k hn).trans e
  exact c.trans ⟨⟨(KeepsWalks.setCell b _ u).size, fun k ob hk e => (Below.heap_setCell _ _ _ k (by show k ≠ S; omega)).trans e, fun k cs fr e => key _ k cs fr h1 e, fun k cs fr e => key _ k cs fr h2 e, fun k cs fr e => key _ k cs fr h3 e⟩, fun k cs fr e => key _ k cs fr h4 e⟩
theorem KD.grown {B : Nat} {a b c : World} {row : Option Nat} (h : KD B a b) (hg : b.grownBy c row) (hr : ∀ k, row = some k → B ≤ k ∧ ∃ cs fr, b.heap[k]? = some (Obj.cells cs 43 fr)) : KD B a c := by
  have key : ∀ (t' : TypeId) (k : Nat) (ks : Array Value) (fr : Nat × Nat), 43 ≠ t' → b.heap[k]? = some (.cells ks t' fr) → c.heap[k]? = some (.cells ks t' fr) := fun t' k ks fr ht e => by
    refine (hg.block k (Array.getElem?_eq_some_iff.1 e).1 (fun e2 => ?_)).trans e
    obtain ⟨-, cs', fr', e3⟩ := hr k e2.symm
    rw [e3] at e
    cases e
    exact ht rfl
  exact h.trans ⟨⟨hg.size, fun k o hk e => (hg.block k (Array.getElem?_eq_some_iff.1 e).1 (fun e2 => by have := (hr k e2.symm).1; omega)).trans e, fun k cs fr e => key _ k cs fr (by decide) e, fun k cs fr e => key _ k cs fr (by decide) e, fun k cs fr e => key _ k cs fr (by decide) e⟩, fun k cs fr e => key _ k cs fr (by decide) e⟩
theorem Blk.pgrown {w w' : World} {g B : Nat} {t : TypeId} {cs : Array Value} {row : Option Nat} (h : Blk w g t cs) (hg : w.grownBy w' row) (hr : ∀ k, row = some k → B ≤ k ∧ ∃ cs fr, w.heap[k]? = some (Obj.cells cs 43 fr)) (ht : t ≠ 43) : Blk w' g t cs :=
  h.grown hg (fun e => by
    obtain ⟨-, cs', fr', e3⟩ := hr g e.symm
    unfold Blk at h
    rw [e3] at h
    cases h
    exact ht rfl)
theorem AtEv.kpt {B : Nat} {x : EvV} {w w' : World} (h : AtEv B x w) (k : Kpt B w w') : AtEv B x w' := by
  obtain ⟨f, ba', bn, bc, ia, iN, ic, oa, on, oc, pa, pn, pc, first, nm, fin, h1, h2⟩ := h
  refine ⟨f, ba', bn, bc, ia, iN, ic, oa, on, oc, pa, pn, pc, first, nm, fin, h1, fun hb => ?_⟩
  obtain ⟨e1, e2, e3, e4⟩ := h2 hb
  exact ⟨e1, e2.kpt k, e3, e4.keep (fun i cs fr _ e => k.cells i cs _ fr (by decide) e) (fun i cs fr _ e => k.cells i cs _ fr (by decide) e)⟩
theorem Kpt.of_ext {B : Nat} {w w' : World} (x : Ext w w') : Kpt B w w' :=
  ⟨x.os, x.tape, x.output, x.size, fun k _ _ e => (x.block k (Array.getElem?_eq_some_iff.1 e).1).trans e, fun k _ _ _ _ e => (x.block k (Array.getElem?_eq_some_iff.1 e).1).trans e⟩
theorem ParsAt.set {B S o : Nat} {w : World} {u v : Value} {t : TypeId} {cs : Array Value} {ps : List ParamP} (h : ParsAt B w v ps) (hS : Blk w S t cs) (h1 : t ≠ 43) (h2 : t ≠ 3) : ParsAt B (w.setCell ⟨S, o, none⟩ u) v ps := by
  have key : ∀ t', t ≠ t' → KeepT B t' w (w.setCell ⟨S, o, none⟩ u) := fun t' ht k ks fr _ e => by
    have hn : k ≠ S := by
      rintro rfl
      unfold Blk at hS
      rw [hS] at e
      cases e
      exact ht rfl
    exact (Below.heap_setCell _ _ _ k hn).trans e
  exact h.keep (key _ h1) (key _ h2)
theorem ParsAt.typed {B : Nat} {w : World} {v : Value} {ps : List ParamP} (h : ParsAt B w v ps) : ∀ k, v.ownBlock = some k → B ≤ k ∧ ∃ cs fr, w.heap[k]? = some (Obj.cells cs 43 fr) := by
  obtain ⟨rs, -, r2, -⟩ := h
  exact own_type r2
theorem RowS.pgrown {B : Nat} {w w' : World} {v : Value} {xs : List Int} {row : Option Nat} (h : RowS B w v xs) (hg : w.grownBy w' row) (hr : ∀ k, row = some k → B ≤ k ∧ ∃ cs fr, w.heap[k]? = some (Obj.cells cs 43 fr)) : RowS B w' v xs :=
  h.keep (fun k hk hl => hg.block k hl (fun e => by have := (hr k e.symm).1; omega)) (fun k cs fr e => (hg.block k (Array.getElem?_eq_some_iff.1 e).1 (fun e2 => by
    obtain ⟨-, cs', fr', e3⟩ := hr k e2.symm
    rw [e3] at e
    cases e)).trans e)
end Go.Proofs.YtgokenbojppnhaaDoor
namespace Go.Proofs.YtgokenbojppnhaaDoor
open Go.RowKit Go.Shelf
attribute [local go_sem] Oper.semAt_some
/-- What stands while the loop runs; when it is left. -/
def InfIn (w : World) (dv : Array Value) (inp : List Int) (pre : List EvV) (W : World) : Prop := ∃ oa pa oc pc, InfLoc w W dv (lastOut inp pre) (parsOf pre) 0 oa pa oc pc
def InfOut (w : World) (dv : Array Value) (c : Code) (pre : List EvV) (W : World) : Prop := c = .exit 0 ∧ ∃ o ps oa pa oc pc er ys y, InfLoc w W dv o ps er oa pa oc pc ∧ pre = ys ++ [y] ∧ y.ev.bad = er
theorem Blk.put {w : World} {g D : Nat} {t : TypeId} {cs : Array Value} {o : Obj} (h : Blk w g t cs) (hn : g ≠ D) : Blk (w.putObj D o) g t cs := (World.putObj_heap_other hn).trans h
theorem keep_put {w : World} {D base : Nat} {t : TypeId} {o r : Obj} (h : w.heap[D]? = some r) (hr : r.isCells = false) : KeepT base t w (w.putObj D o) := fun k cs fr _ e => by
  have hn : k ≠ D := by rintro rfl; rw [e] at h; cases h; cases hr
  exact (World.putObj_heap_other hn).trans e
theorem InfLoc.er {w W : World} {dv : Array Value} {o : List Int} {ps : List ParamP} {er er' : Int} {oa pa : Option Addr} {oc pc : Nat} (h : InfLoc w W dv o ps er oa pa oc pc) : InfLoc w (W.setCell ⟨w.heap.size + 1 + 1 + 1, 0, none⟩ (.int .i64 er')) dv o ps er' oa pa oc pc :=
  ⟨h.b0.far (p := ⟨w.heap.size + 1 + 1 + 1, 0, none⟩) (by show _ ≠ w.heap.size + 1 + 1 + 1; omega) _, h.b1.far (p := ⟨w.heap.size + 1 + 1 + 1, 0, none⟩) (by show _ ≠ w.heap.size + 1 + 1 + 1; omega) _, h.b2.far (p := ⟨w.heap.size + 1 + 1 + 1, 0, none⟩) (by show _ ≠ w.heap.size + 1 + 1 + 1; omega) _, h.b3.set_ 0 _, h.row.gb ((GB.refl W _).set 0 _) h.b3 (by decide) (by omega), h.pars.set h.b3 (by decide) (by decide), h.ext.setCell (p := ⟨w.heap.size + 1 + 1 + 1, 0, none⟩) (by show _ ≤ w.heap.size + 1 + 1 + 1; omega) _⟩
set_option maxHeartbeats 8000000 in
set_option maxRecDepth 100000 in
theorem infer_good {A : Nat → Prop} {n : Nat} {w : World} {v : Value} {d : DefL} (h : DefAt A n w v d) (hg : goodD d = true) (hf : fullS d.input = true) :
    Calls Tryd.prog 22 #[v] w fun e w' => InferP w.heap.size w e w' (match inferS true [] 0 d.input d.layers with
      | .bad b => .bad b
      | .ok x ps => if d.loss = 1 ∧ x.length ≠ 1 then .bad 2 else .ok x ps) := by
  have GO := Lib.hid (fun u (x : Ext w u) => dgood_any (show DefAt A n u v d from ⟨by obtain ⟨a1, c1, a2, c2, e, hi, hl⟩ := h.is; exact ⟨a1, c1, a2, c2, e, hi.ext x, hl.ext x⟩, fun b hb => Nat.lt_of_lt_of_le (h.below b hb) x.size⟩))
  obtain ⟨TT, hT⟩ : ∃ T, (match inferS true [] 0 d.input d.layers with
      | .bad b => Told.bad b
      | .ok x ps => if d.loss = 1 ∧ x.length ≠ 1 then .bad 2 else .ok x ps) = T := ⟨_, rfl⟩
  rw [hT]
  have HT := Lib.hid hT
  clear hT
  have hlen := good_in hg
  obtain ⟨l', hl'⟩ := good_layers hg
  rw [hg] at GO
  obtain ⟨a1, c1, a2, c2, rfl, hi, hL⟩ := h.is
  have FI := Lib.hid (fun u (x : Ext w u) => fits_any (hi.ext x) (by omega))
  rw [hf] at FI
  have HLAY := Lib.hid hL
  have HA := Lib.hid h.below
  have HG := Lib.hid hl'
  have HF := Lib.hid hf
  have HROW : Hid (RowS w.heap.size w (.slice a1 d.input.length c1) d.input) := Lib.hid ⟨hi, fun b hb => .inl (by
    obtain ⟨b', o', rfl, hc⟩ := hxc_of hi (by intro e; rw [e] at hlen; simp at hlen)
    have := cell_lt (hc 0 (by omega))
    simpa using (by cases hb; exact this))⟩
  clear h hg hf hi hlen hL hl'
  refine (callsIn_wide (n := 10)).1 ?_
  refine callsIn_of_wp_marks Tryd.func22 rfl trivial ?_
  simp only [Tryd.ntmps22, List.size_toArray, List.length_cons, List.length_nil, Nat.reduceAdd, Nat.reduceSub, Array.replicate_succ, Array.replicate_zero, List.push_toArray, List.append_toArray, List.nil_append, List.cons_append]
  refine wpIn_wide.2 ?_
  go_wp2_with fail
  go_step3
  go_wp2_with fail
  refine (GO.out _ (by repeat (first | with_reducible exact Ext.refl _ | with_reducible apply Ext.drew | with_reducible apply Ext.drewN | with_reducible apply Ext.alloc | ((with_reducible refine Ext.setCell ?_ ?_ _); rotate_left; focus (first | (simp; done) | (simp; omega) | omega)) | with_reducible refine Ext.tr ?_ x1 | with_reducible refine Ext.tr ?_ x2 | with_reducible refine Ext.tr ?_ x5 | with_reducible refine Ext.tr ?_ xa | with_reducible refine Ext.tr ?_ xc | with_reducible refine Ext.tr ?_ xf | with_reducible refine Ext.tr ?_ hx | with_reducible assumption))).mono ?_; rintro e v1 ⟨rfl, x1⟩; obtain ⟨c1, f1⟩ := x1.rules; have z1 := x1.size; have k1_0_0 := c1 (w.heap.size) 0 (by first | (simp; done) | (simp; omega) | omega); have q1_0_0 := f1 (w.heap.size) 0 (by first | (simp; done) | (simp; omega) | omega); have k1_0_1 := c1 (w.heap.size) 1 (by first | (simp; done) | (simp; omega) | omega); have q1_0_1 := f1 (w.heap.size) 1 (by first | (simp; done) | (simp; omega) | omega); have k1_0_2 := c1 (w.heap.size) 2 (by first | (simp; done) | (simp; omega) | omega); have q1_0_2 := f1 (w.heap.size) 2 (by first | (simp; done) | (simp; omega) | omega); have k1_1_0 := c1 (w.heap.size + 1) 0 (by first | (simp; done) | (simp; omega) | omega); have q1_1_0 := f1 (w.heap.size + 1) 0 (by first | (simp; done) | (simp; omega) | omega); have k1_2_0 := c1 (w.heap.size + 2) 0 (by first | (simp; done) | (simp; omega) | omega); have q1_2_0 := f1 (w.heap.size + 2) 0 (by first | (simp; done) | (simp; omega) | omega); have k1_3_0 := c1 (w.heap.size + 3) 0 (by first | (simp; done) | (simp; omega) | omega); have q1_3_0 := f1 (w.heap.size + 3) 0 (by first | (simp; done) | (simp; omega) | omega); have z1_0 : w.heap.size < v1.heap.size := (by (try simp at z1); omega); have z1_1 : w.heap.size + 1 < v1.heap.size := (by (try simp at z1); omega); have z1_2 : w.heap.size + 2 < v1.heap.size := (by (try simp at z1); omega); have z1_3 : w.heap.size + 3 < v1.heap.size := (by (try simp at z1); omega); (try simp at z1); clear c1 f1; simp [go_sem, *] at k1_0_0 q1_0_0 k1_0_1 q1_0_1 k1_0_2 q1_0_2 k1_1_0 q1_1_0 k1_2_0 q1_2_0 k1_3_0 q1_3_0
  go_wp2_with fail
  refine (FI.out _ (by repeat (first | with_reducible exact Ext.refl _ | with_reducible apply Ext.drew | with_reducible apply Ext.drewN | with_reducible apply Ext.alloc | ((with_reducible refine Ext.setCell ?_ ?_ _); rotate_left; focus (first | (simp; done) | (simp; omega) | omega)) | with_reducible refine Ext.tr ?_ x1 | with_reducible refine Ext.tr ?_ x2 | with_reducible refine Ext.tr ?_ x5 | with_reducible refine Ext.tr ?_ xa | with_reducible refine Ext.tr ?_ xc | with_reducible refine Ext.tr ?_ xf | with_reducible refine Ext.tr ?_ hx | with_reducible assumption))).mono ?_; rintro e v2 ⟨rfl, x2⟩; obtain ⟨c2, f2⟩ := x2.rules; have z2 := x2.size; have k2_0_0 := c2 (w.heap.size) 0 (by first | (simp; done) | (simp; omega) | omega); have q2_0_0 := f2 (w.heap.size) 0 (by first | (simp; done) | (simp; omega) | omega); have k2_0_1 := c2 (w.heap.size) 1 (by first | (simp; done) | (simp; omega) | omega); have q2_0_1 := f2 (w.heap.size) 1 (by first | (simp; done) | (simp; omega) | omega); have k2_0_2 := c2 (w.heap.size) 2 (by first | (simp; done) | (simp; omega) | omega); have q2_0_2 := f2 (w.heap.size) 2 (by first | (simp; done) | (simp; omega) | omega); have k2_1_0 := c2 (w.heap.size + 1) 0 (by first | (simp; done) | (simp; omega) | omega); have q2_1_0 := f2 (w.heap.size + 1) 0 (by first | (simp; done) | (simp; omega) | omega); have k2_2_0 := c2 (w.heap.size + 2) 0 (by first | (simp; done) | (simp; omega) | omega); have q2_2_0 := f2 (w.heap.size + 2) 0 (by first | (simp; done) | (simp; omega) | omega); have k2_3_0 := c2 (w.heap.size + 3) 0 (by first | (simp; done) | (simp; omega) | omega); have q2_3_0 := f2 (w.heap.size + 3) 0 (by first | (simp; done) | (simp; omega) | omega); have z2_0 : w.heap.size < v2.heap.size := (by (try simp at z2); omega); have z2_1 : w.heap.size + 1 < v2.heap.size := (by (try simp at z2); omega); have z2_2 : w.heap.size + 2 < v2.heap.size := (by (try simp at z2); omega); have z2_3 : w.heap.size + 3 < v2.heap.size := (by (try simp at z2); omega); (try simp at z2); clear c2 f2; simp [go_sem, *] at k2_0_0 q2_0_0 k2_0_1 q2_0_1 k2_0_2 q2_0_2 k2_1_0 q2_1_0 k2_2_0 q2_2_0 k2_3_0 q2_3_0
  clear GO FI
  go_wp2_with fail
  go_step3
  go_wp2_with fail
  refine (steps_any _ _ _ _ _ _ _ _).mono ?_
  rintro e w' ⟨rfl, rfl⟩
  go_wp2_with fail
  obtain ⟨V, hV⟩ : ∃ V, V = v2.setCell ⟨w.heap.size + 1, 0, none⟩ (.slice a1 d.input.length c1) := ⟨_, rfl⟩
  have vsz : V.heap.size = v2.heap.size := by rw [hV]; simp
  have XV : Ext w V := by rw [hV]; exact (by repeat (first | with_reducible exact Ext.refl _ | with_reducible apply Ext.drew | with_reducible apply Ext.drewN | with_reducible apply Ext.alloc | ((with_reducible refine Ext.setCell ?_ ?_ _); rotate_left; focus (first | (simp; done) | (simp; omega) | omega)) | with_reducible refine Ext.tr ?_ x1 | with_reducible refine Ext.tr ?_ x2 | with_reducible refine Ext.tr ?_ x5 | with_reducible refine Ext.tr ?_ xa | with_reducible refine Ext.tr ?_ xc | with_reducible refine Ext.tr ?_ xf | with_reducible refine Ext.tr ?_ hx | with_reducible assumption))
  have BV0 : Blk V w.heap.size 27 #[.slice a1 d.input.length c1, .slice a2 d.layers.length c2, .int .i64 d.loss] := by
    rw [hV]; exact (((((Blk.new w _ _).alloc _).alloc _).alloc _).ext x1 |>.ext x2).far (by show _ ≠ w.heap.size + 1; omega) _
  have BV1 : Blk V (w.heap.size + 1) 24 #[.slice a1 d.input.length c1] := by
    rw [hV]
    have h := (((((Blk.new (w.alloc (.cells #[.slice a1 d.input.length c1, .slice a2 d.layers.length c2, .int .i64 d.loss] 27)) 24 #[.slice none 0 0]).alloc (.cells #[.slice none 0 0] 28)).alloc (.cells #[.int .i64 0] 32)).ext x1).ext x2)
    rw [World.size_alloc] at h
    exact h.set_ 0 _
  have BV2 : Blk V (w.heap.size + 2) 28 #[.slice none 0 0] := by
    rw [hV]
    have h := ((((Blk.new ((w.alloc (.cells #[.slice a1 d.input.length c1, .slice a2 d.layers.length c2, .int .i64 d.loss] 27)).alloc (.cells #[.slice none 0 0] 24)) 28 #[.slice none 0 0]).alloc (.cells #[.int .i64 0] 32)).ext x1).ext x2)
    rw [World.size_alloc, World.size_alloc] at h
    exact h.far (by show _ ≠ w.heap.size + 1; omega) _
  have BV3 : Blk V (w.heap.size + 3) 32 #[.int .i64 0] := by
    rw [hV]
    have h := (((Blk.new (((w.alloc (.cells #[.slice a1 d.input.length c1, .slice a2 d.layers.length c2, .int .i64 d.loss] 27)).alloc (.cells #[.slice none 0 0] 24)).alloc (.cells #[.slice none 0 0] 28)) 32 #[.int .i64 0]).ext x1).ext x2)
    rw [World.size_alloc, World.size_alloc, World.size_alloc] at h
    exact h.far (by show _ ≠ w.heap.size + 1; omega) _
  rw [← vsz, ← hV]
  have XVA : Ext V (V.alloc (.cells #[.slice a1 d.input.length c1, .slice a2 d.layers.length c2, .int .i64 d.loss] 27)) := (Ext.refl V).alloc _
  have IL : InfLoc w (V.alloc (.cells #[.slice a1 d.input.length c1, .slice a2 d.layers.length c2, .int .i64 d.loss] 27)) #[.slice a1 d.input.length c1, .slice a2 d.layers.length c2, .int .i64 d.loss] d.input [] 0 a1 none c1 0 :=
    ⟨BV0.ext XVA, BV1.ext XVA, BV2.ext XVA, BV3.ext XVA, (HROW.out.ext XV).ext XVA, ParsAt.nil _ _, XV.tr XVA⟩
  have hsz : w.heap.size < V.heap.size := BV0.lt
  have XVH := Lib.hid (XV.tr XVA)
  have IT := steps_iter 9 (by omega) A w.heap.size V.heap.size n a1 a2 c1 c2 d.loss d.input d.layers l' (V.alloc (.cells #[.slice a1 d.input.length c1, .slice a2 d.layers.length c2, .int .i64 d.loss] 27)) (HLAY.out.ext XVH.out) HA.out HG.out HF.out (HROW.out.ext XVH.out) (by simp; omega) (Blk.new V _ _)
  clear hV vsz XV BV0 BV1 BV2 BV3 XVA x1 x2
  refine (wpIn_wide (n := 10)).1 ?_
  refine range_g rfl (by omega) (gf := 46) (lb := #[.pointer (some ⟨V.heap.size, 0, none⟩)]) rfl trivial (enters_of Tryd.func46 (by kernel_rfl) rfl)
    IT (fun h e hn => h.block _ _ e (.inr (by rintro ⟨_, _, rfl⟩; cases hn)))
    (fun h k => h.trans k) (fun W l o r hl hr ho => KD.put W l o r (by simp at hl; omega) hr ho) (fun W o => KD.ext ((Ext.refl W).alloc o)) (fun _ => rfl)
    (InfIn w #[.slice a1 d.input.length c1, .slice a2 d.layers.length c2, .int .i64 d.loss] d.input)
    (InfOut w #[.slice a1 d.input.length c1, .slice a2 d.layers.length c2, .int .i64 d.loss])
    (fun s A B row hs hg hr => by
      obtain ⟨oa, pa, oc, pc, h⟩ := hs
      exact ⟨oa, pa, oc, pc, h.kpt (Kpt.grown hg (fun r e => ⟨by have := (hr r e).1; simp at this; omega, (hr r e).2⟩))⟩)
    (fun c s A B row hs hg hr => by
      obtain ⟨hc, o, ps, oa, pa, oc, pc, er, ys, y, h, h2⟩ := hs
      exact ⟨hc, o, ps, oa, pa, oc, pc, er, ys, y, h.kpt (Kpt.grown hg (fun r e => ⟨by have := (hr r e).1; simp at this; omega, (hr r e).2⟩)), h2⟩)
    (fun s A B hs hg => by
      obtain ⟨oa, pa, oc, pc, h⟩ := hs
      exact ⟨oa, pa, oc, pc, h.kpt hg.kpt⟩)
    (fun c s A B hs hg => by
      obtain ⟨hc, o, ps, oa, pa, oc, pc, er, ys, y, h, h2⟩ := hs
      exact ⟨hc, o, ps, oa, pa, oc, pc, er, ys, y, h.kpt hg.kpt, h2⟩)
    ⟨a1, none, c1, 0, IL⟩ ?round ?done ?stop
  case stop =>
    rintro D c pre W hD ⟨b, ys', y', hb, hi, he', hy'⟩ ⟨rfl, o, ps, oa, pa, oc, pc, er, ys, y, il, he, hy⟩ hK
    have hyy : y = y' := by
      rw [he] at he'
      simpa using List.append_inj_right' he' rfl
    subst hyy
    obtain rfl : er = b := hy.symm.trans hy'
    have HINF := Lib.hid hi
    have HB := Lib.hid hb
    have HK := Lib.hid hK
    have HIL := Lib.hid il
    have e3 : W.cell? ⟨w.heap.size + 1 + 1 + 1, 0, none⟩ = some (.int .i64 er) := il.b3.cells 0 rfl
    have e2 : W.cell? ⟨w.heap.size + 1 + 1, 0, none⟩ = some (.slice pa ps.length pc) := il.b2.cells 0 rfl
    have e1 : W.cell? ⟨w.heap.size + 1, 0, none⟩ = some (.slice oa o.length oc) := il.b1.cells 0 rfl
    have f1 : W.frozen? ⟨w.heap.size + 1, 0, none⟩ = false := il.b1.frozen 0
    have f2 : W.frozen? ⟨w.heap.size + 1 + 1, 0, none⟩ = false := il.b2.frozen 0
    have f3 : W.frozen? ⟨w.heap.size + 1 + 1 + 1, 0, none⟩ = false := il.b3.frozen 0
    have z3 : w.heap.size + 1 + 1 + 1 < W.heap.size := il.b3.lt
    have hDw : w.heap.size + 1 + 1 + 1 < D := by
      have h1 := IL.b3.lt
      omega
    have t1 : (er == 0) = false := by simpa using hb
    have t2 : (er != 0) = true := by simpa using hb
    clear hi hb hK il he he' hy hy' IL IT k1_0_0 q1_0_0 k1_0_1 q1_0_1 k1_0_2 q1_0_2 k1_1_0 q1_1_0 k1_2_0 q1_2_0 k1_3_0 q1_3_0 k2_0_0 q2_0_0 k2_0_1 q2_0_1 k2_0_2 q2_0_2 k2_1_0 q2_1_0 k2_2_0 q2_2_0 k2_3_0 q2_3_0 z1 z1_0 z1_1 z1_2 z1_3 z2 z2_0 z2_1 z2_2 z2_3
    refine wpIn_wide.2 ?_
    go_wp2_with fail
    go_region
    all_goals
      go_wp2_with fail
      obtain ⟨Wf, hWf⟩ : ∃ Wf, Wf = (((W.setCell ⟨w.heap.size + 1, 0, none⟩ (.slice none 0 0)).setCell ⟨w.heap.size + 1 + 1, 0, none⟩ (.slice none 0 0)).setCell ⟨w.heap.size + 1 + 1 + 1, 0, none⟩ (.int .i64 er)).drew := ⟨_, rfl⟩
      have r1 : Blk Wf (w.heap.size + 1) 24 #[.slice none 0 0] := by
        rw [hWf]; exact (((HIL.out.b1.set_ 0 _).far (p := ⟨w.heap.size + 1 + 1, 0, none⟩) (by show _ ≠ w.heap.size + 1 + 1; omega) _).far (p := ⟨w.heap.size + 1 + 1 + 1, 0, none⟩) (by show _ ≠ w.heap.size + 1 + 1 + 1; omega) _).drew
      have r2 : Blk Wf (w.heap.size + 1 + 1) 28 #[.slice none 0 0] := by
        rw [hWf]; exact (((HIL.out.b2.far (p := ⟨w.heap.size + 1, 0, none⟩) (by show _ ≠ w.heap.size + 1; omega) _).set_ 0 _).far (p := ⟨w.heap.size + 1 + 1 + 1, 0, none⟩) (by show _ ≠ w.heap.size + 1 + 1 + 1; omega) _).drew
      have r3 : Blk Wf (w.heap.size + 1 + 1 + 1) 32 #[.int .i64 er] := by
        rw [hWf]; exact (((HIL.out.b3.far (p := ⟨w.heap.size + 1, 0, none⟩) (by show _ ≠ w.heap.size + 1; omega) _).far (p := ⟨w.heap.size + 1 + 1, 0, none⟩) (by show _ ≠ w.heap.size + 1 + 1; omega) _).set_ 0 _).drew
      have hKf : Wf.heap[D]? = some (.deferred (some [])) := by
        rw [hWf]
        exact (Below.heap_setCell _ _ _ D (by show D ≠ w.heap.size + 1 + 1 + 1; omega)).trans ((Below.heap_setCell _ _ _ D (by show D ≠ w.heap.size + 1 + 1; omega)).trans ((Below.heap_setCell _ _ _ D (by show D ≠ w.heap.size + 1; omega)).trans HK.out))
      have xf : Ext w Wf := by
        rw [hWf]
        exact (((HIL.out.ext.setCell (p := ⟨w.heap.size + 1, 0, none⟩) (by show _ ≤ w.heap.size + 1; omega) _).setCell (p := ⟨w.heap.size + 1 + 1, 0, none⟩) (by show _ ≤ w.heap.size + 1 + 1; omega) _).setCell (p := ⟨w.heap.size + 1 + 1 + 1, 0, none⟩) (by show _ ≤ w.heap.size + 1 + 1 + 1; omega) _).drew
      rw [← hWf]
      clear hWf e1 e2 e3 f1 f2 f3
      have XF : Ext w (Wf.putObj D (.deferred none)) := xf.trans (belowK_b (w := w) (Nat.le_refl _) Wf D _ _ (by omega) hKf rfl rfl)
      have k0 := (r1.put (o := .deferred none) (D := D) (by omega)).cells 0 rfl
      have k1 := (r2.put (o := .deferred none) (D := D) (by omega)).cells 0 rfl
      have k2 := (r3.put (o := .deferred none) (D := D) (by omega)).cells 0 rfl
      rw [Exit.noGoto_ret]
      change bodyPostM _ _ _ _ _ _ _ _
      refine ⟨by simp, .inl ⟨_, _, rfl, run_takeDeferred hKf, ?_⟩⟩
      generalize Wf.putObj D (.deferred none) = Wp at *
      refine ⟨.tuple #[.slice none 0 0, .slice none 0 0, .int .i64 er], ?_, ?_⟩
      · simp [results, Tryd.results22, go_sem, k0, k1, k2]
      · have h := HT.out
        rw [HINF.out] at h
        simp only at h
        rw [← h]
        exact ⟨rfl, XF⟩
  case done =>
    rintro D xs W hD ⟨o, ps, hinf, hful, hev⟩ ⟨oa, pa, oc, pc, il⟩ hK
    rw [hev.2.1, hev.2.2] at il
    have HK := Lib.hid hK
    have e0 : W.cell? ⟨w.heap.size, 2, none⟩ = some (.int .i64 d.loss) := il.b0.cells 2 rfl
    have e3 : W.cell? ⟨w.heap.size + 1 + 1 + 1, 0, none⟩ = some (.int .i64 0) := il.b3.cells 0 rfl
    have e2 : W.cell? ⟨w.heap.size + 1 + 1, 0, none⟩ = some (.slice pa ps.length pc) := il.b2.cells 0 rfl
    have e1 : W.cell? ⟨w.heap.size + 1, 0, none⟩ = some (.slice oa o.length oc) := il.b1.cells 0 rfl
    have f1 : W.frozen? ⟨w.heap.size + 1, 0, none⟩ = false := il.b1.frozen 0
    have f2 : W.frozen? ⟨w.heap.size + 1 + 1, 0, none⟩ = false := il.b2.frozen 0
    have f3 : W.frozen? ⟨w.heap.size + 1 + 1 + 1, 0, none⟩ = false := il.b3.frozen 0
    have z3 : w.heap.size + 1 + 1 + 1 < W.heap.size := il.b3.lt
    have hDw : w.heap.size + 1 + 1 + 1 < D := by
      have h1 := IL.b3.lt
      omega
    have HIL := Lib.hid il
    have ol : o.length ≤ 3 := (fullS_dims hful).1
    have HINF := Lib.hid hinf
    clear hK il hinf hful hev IL IT k1_0_0 q1_0_0 k1_0_1 q1_0_1 k1_0_2 q1_0_2 k1_1_0 q1_1_0 k1_2_0 q1_2_0 k1_3_0 q1_3_0 k2_0_0 q2_0_0 k2_0_1 q2_0_1 k2_0_2 q2_0_2 k2_1_0 q2_1_0 k2_2_0 q2_2_0 k2_3_0 q2_3_0 z1 z1_0 z1_1 z1_2 z1_3 z2 z2_0 z2_1 z2_2 z2_3
    by_cases hx : d.loss = 1 ∧ o.length ≠ 1
    · have t1 : (d.loss == 1) = true := by simp [hx.1]
      have t2 : ((o.length : Int) != 1) = true := by simp; omega
      have HX := Lib.hid hx
      clear hx
      go_wp2_with fail
      obtain ⟨X, hX⟩ : ∃ X, X = W.setCell ⟨w.heap.size + 1 + 1 + 1, 0, none⟩ (.int .i64 2) := ⟨_, rfl⟩
      have il : InfLoc w X #[.slice a1 d.input.length c1, .slice a2 d.layers.length c2, .int .i64 d.loss] o ps 2 oa pa oc pc := by rw [hX]; exact HIL.out.er
      have HKX : Hid (X.heap[D]? = some (.deferred (some []))) := Lib.hid (by rw [hX]; exact (Below.heap_setCell _ _ _ D (by show D ≠ w.heap.size + 1 + 1 + 1; omega)).trans HK.out)
      rw [← hX]
      clear hX e0 e1 e2 e3 f1 f2 f3 z3 HIL HK
      have HIL := Lib.hid il
      have HK := Lib.hid HKX.out
      have e3 : X.cell? ⟨w.heap.size + 1 + 1 + 1, 0, none⟩ = some (.int .i64 2) := il.b3.cells 0 rfl
      have e2 : X.cell? ⟨w.heap.size + 1 + 1, 0, none⟩ = some (.slice pa ps.length pc) := il.b2.cells 0 rfl
      have e1 : X.cell? ⟨w.heap.size + 1, 0, none⟩ = some (.slice oa o.length oc) := il.b1.cells 0 rfl
      have f1 : X.frozen? ⟨w.heap.size + 1, 0, none⟩ = false := il.b1.frozen 0
      have f2 : X.frozen? ⟨w.heap.size + 1 + 1, 0, none⟩ = false := il.b2.frozen 0
      have f3 : X.frozen? ⟨w.heap.size + 1 + 1 + 1, 0, none⟩ = false := il.b3.frozen 0
      have z3 : w.heap.size + 1 + 1 + 1 < X.heap.size := il.b3.lt
      clear il
      go_region
      go_wp2_with fail
      obtain ⟨Wf, hWf⟩ : ∃ Wf, Wf = (((X.setCell ⟨w.heap.size + 1, 0, none⟩ (.slice none 0 0)).setCell ⟨w.heap.size + 1 + 1, 0, none⟩ (.slice none 0 0)).setCell ⟨w.heap.size + 1 + 1 + 1, 0, none⟩ (.int .i64 2)).drew := ⟨_, rfl⟩
      have r1 : Blk Wf (w.heap.size + 1) 24 #[.slice none 0 0] := by
        rw [hWf]; exact (((HIL.out.b1.set_ 0 _).far (p := ⟨w.heap.size + 1 + 1, 0, none⟩) (by show _ ≠ w.heap.size + 1 + 1; omega) _).far (p := ⟨w.heap.size + 1 + 1 + 1, 0, none⟩) (by show _ ≠ w.heap.size + 1 + 1 + 1; omega) _).drew
      have r2 : Blk Wf (w.heap.size + 1 + 1) 28 #[.slice none 0 0] := by
        rw [hWf]; exact (((HIL.out.b2.far (p := ⟨w.heap.size + 1, 0, none⟩) (by show _ ≠ w.heap.size + 1; omega) _).set_ 0 _).far (p := ⟨w.heap.size + 1 + 1 + 1, 0, none⟩) (by show _ ≠ w.heap.size + 1 + 1 + 1; omega) _).drew
      have r3 : Blk Wf (w.heap.size + 1 + 1 + 1) 32 #[.int .i64 2] := by
        rw [hWf]; exact (((HIL.out.b3.far (p := ⟨w.heap.size + 1, 0, none⟩) (by show _ ≠ w.heap.size + 1; omega) _).far (p := ⟨w.heap.size + 1 + 1, 0, none⟩) (by show _ ≠ w.heap.size + 1 + 1; omega) _).set_ 0 _).drew
      have hKf : Wf.heap[D]? = some (.deferred (some [])) := by
        rw [hWf]
        exact (Below.heap_setCell _ _ _ D (by show D ≠ w.heap.size + 1 + 1 + 1; omega)).trans ((Below.heap_setCell _ _ _ D (by show D ≠ w.heap.size + 1 + 1; omega)).trans ((Below.heap_setCell _ _ _ D (by show D ≠ w.heap.size + 1; omega)).trans HK.out))
      have xf : Ext w Wf := by
        rw [hWf]
        exact (((HIL.out.ext.setCell (p := ⟨w.heap.size + 1, 0, none⟩) (by show _ ≤ w.heap.size + 1; omega) _).setCell (p := ⟨w.heap.size + 1 + 1, 0, none⟩) (by show _ ≤ w.heap.size + 1 + 1; omega) _).setCell (p := ⟨w.heap.size + 1 + 1 + 1, 0, none⟩) (by show _ ≤ w.heap.size + 1 + 1 + 1; omega) _).drew
      rw [← hWf]
      clear hWf e1 e2 e3 f1 f2 f3
      have XF : Ext w (Wf.putObj D (.deferred none)) := xf.trans (belowK_b (w := w) (Nat.le_refl _) Wf D _ _ (by omega) hKf rfl rfl)
      have k0 := (r1.put (o := .deferred none) (D := D) (by omega)).cells 0 rfl
      have k1 := (r2.put (o := .deferred none) (D := D) (by omega)).cells 0 rfl
      have k2 := (r3.put (o := .deferred none) (D := D) (by omega)).cells 0 rfl
      rw [Exit.noGoto_ret]
      change bodyPostM _ _ _ _ _ _ _ _
      refine ⟨by simp, .inl ⟨_, _, rfl, run_takeDeferred hKf, ?_⟩⟩
      generalize Wf.putObj D (.deferred none) = Wp at *
      refine ⟨.tuple #[.slice none 0 0, .slice none 0 0, .int .i64 2], ?_, ?_⟩
      · simp [results, Tryd.results22, go_sem, k0, k1, k2]
      · have h := HT.out
        rw [HINF.out] at h
        simp only [if_pos HX.out] at h
        rw [← h]
        exact ⟨rfl, XF⟩
    · have HX := Lib.hid hx
      have HROWO := Lib.hid HIL.out.row.1
      have CL := Lib.hid (fun u (x : Ext W u) => (cloneI_any (HROWO.out.ext x) (by omega)).mono (R' := fun e w' => ∃ a c, e = .returned (.slice a o.length c) ∧ Ext u w' ∧ w'.ownsRow u.heap.size 3 1 (.slice a o.length c) o.length (o.map (Value.int .i64))) (fun e w' h => by
        obtain ⟨v', h1, h2, h3⟩ := h
        obtain ⟨a, c, rfl⟩ := own_form2 h3
        exact ⟨a, c, h1, h2, h3⟩))
      by_cases hl : d.loss = 1
      · have t1 : (d.loss == 1) = true := by simp [hl]
        have t2 : ((o.length : Int) != 1) = false := by
          have : o.length = 1 := by
            by_cases h1 : o.length = 1
            · exact h1
            · exact absurd ⟨hl, h1⟩ hx
          simp [this]
        clear hx
        go_wp2_with fail
        go_region_with ((go_at_call 34; refine (CL.out _ (by repeat (first | with_reducible exact Ext.refl _ | with_reducible apply Ext.drew | with_reducible apply Ext.drewN | with_reducible apply Ext.alloc | ((with_reducible refine Ext.setCell ?_ ?_ _); rotate_left; focus (first | (simp; done) | (simp; omega) | omega)) | with_reducible refine Ext.tr ?_ x1 | with_reducible refine Ext.tr ?_ x2 | with_reducible refine Ext.tr ?_ x5 | with_reducible refine Ext.tr ?_ xa | with_reducible refine Ext.tr ?_ xc | with_reducible refine Ext.tr ?_ xf | with_reducible refine Ext.tr ?_ hx | with_reducible assumption))).mono ?_; rintro e v5 ⟨qa, qc, rfl, x5, h5⟩; obtain ⟨c5, f5⟩ := x5.rules; have z5 := x5.size; have k5_1_0 := c5 (w.heap.size + 1) 0 (by first | (simp; done) | (simp; omega) | omega); have q5_1_0 := f5 (w.heap.size + 1) 0 (by first | (simp; done) | (simp; omega) | omega); have k5_2_0 := c5 (w.heap.size + 2) 0 (by first | (simp; done) | (simp; omega) | omega); have q5_2_0 := f5 (w.heap.size + 2) 0 (by first | (simp; done) | (simp; omega) | omega); have k5_3_0 := c5 (w.heap.size + 3) 0 (by first | (simp; done) | (simp; omega) | omega); have q5_3_0 := f5 (w.heap.size + 3) 0 (by first | (simp; done) | (simp; omega) | omega); have z5_0 : w.heap.size < v5.heap.size := (by (try simp at z5); omega); have z5_1 : w.heap.size + 1 < v5.heap.size := (by (try simp at z5); omega); have z5_2 : w.heap.size + 2 < v5.heap.size := (by (try simp at z5); omega); have z5_3 : w.heap.size + 3 < v5.heap.size := (by (try simp at z5); omega); (try simp at z5); clear c5 f5; simp [go_sem, *] at k5_1_0 q5_1_0 k5_2_0 q5_2_0 k5_3_0 q5_3_0))
        all_goals
          go_wp2_with fail
          have X5 : Ext W v5 := (by repeat (first | with_reducible exact Ext.refl _ | with_reducible apply Ext.drew | with_reducible apply Ext.drewN | with_reducible apply Ext.alloc | ((with_reducible refine Ext.setCell ?_ ?_ _); rotate_left; focus (first | (simp; done) | (simp; omega) | omega)) | with_reducible refine Ext.tr ?_ x1 | with_reducible refine Ext.tr ?_ x2 | with_reducible refine Ext.tr ?_ x5 | with_reducible refine Ext.tr ?_ xa | with_reducible refine Ext.tr ?_ xc | with_reducible refine Ext.tr ?_ xf | with_reducible refine Ext.tr ?_ hx | with_reducible assumption))
          have O5 : v5.ownsRow W.heap.size 3 1 (.slice qa o.length qc) o.length (o.map (Value.int .i64)) := h5
          clear x5 h5
          obtain ⟨Wf, hWf⟩ : ∃ Wf, Wf = (((v5.setCell ⟨w.heap.size + 1, 0, none⟩ (.slice qa o.length qc)).setCell ⟨w.heap.size + 1 + 1, 0, none⟩ (.slice pa ps.length pc)).setCell ⟨w.heap.size + 1 + 1 + 1, 0, none⟩ (.int .i64 0)) := ⟨_, rfl⟩
          have q1 : Blk v5 (w.heap.size + 1) 24 #[.slice oa o.length oc] := HIL.out.b1.ext X5
          have q2 : Blk (v5.setCell ⟨w.heap.size + 1, 0, none⟩ (.slice qa o.length qc)) (w.heap.size + 1 + 1) 28 #[.slice pa ps.length pc] := (HIL.out.b2.ext X5).far (p := ⟨w.heap.size + 1, 0, none⟩) (by show _ ≠ w.heap.size + 1; omega) _
          have q3 : Blk ((v5.setCell ⟨w.heap.size + 1, 0, none⟩ (.slice qa o.length qc)).setCell ⟨w.heap.size + 1 + 1, 0, none⟩ (.slice pa ps.length pc)) (w.heap.size + 1 + 1 + 1) 32 #[.int .i64 0] := ((HIL.out.b3.ext X5).far (p := ⟨w.heap.size + 1, 0, none⟩) (by show _ ≠ w.heap.size + 1; omega) _).far (p := ⟨w.heap.size + 1 + 1, 0, none⟩) (by show _ ≠ w.heap.size + 1 + 1; omega) _
          have r1 : Blk Wf (w.heap.size + 1) 24 #[.slice qa o.length qc] := by
            rw [hWf]; exact ((q1.set_ 0 _).far (p := ⟨w.heap.size + 1 + 1, 0, none⟩) (by show _ ≠ w.heap.size + 1 + 1; omega) _).far (p := ⟨w.heap.size + 1 + 1 + 1, 0, none⟩) (by show _ ≠ w.heap.size + 1 + 1 + 1; omega) _
          have r2 : Blk Wf (w.heap.size + 1 + 1) 28 #[.slice pa ps.length pc] := by
            rw [hWf]; exact (q2.set_ 0 _).far (p := ⟨w.heap.size + 1 + 1 + 1, 0, none⟩) (by show _ ≠ w.heap.size + 1 + 1 + 1; omega) _
          have r3 : Blk Wf (w.heap.size + 1 + 1 + 1) 32 #[.int .i64 0] := by
            rw [hWf]; exact q3.set_ 0 _
          have hDW : D < W.heap.size := (Array.getElem?_eq_some_iff.1 HK.out).1
          have hKf : Wf.heap[D]? = some (.deferred (some [])) := by
            rw [hWf]
            exact (Below.heap_setCell _ _ _ D (by show D ≠ w.heap.size + 1 + 1 + 1; omega)).trans ((Below.heap_setCell _ _ _ D (by show D ≠ w.heap.size + 1 + 1; omega)).trans ((Below.heap_setCell _ _ _ D (by show D ≠ w.heap.size + 1; omega)).trans ((X5.block D hDW).trans HK.out)))
          have xf : Ext w Wf := by
            rw [hWf]
            exact (((HIL.out.ext.tr X5).setCell (p := ⟨w.heap.size + 1, 0, none⟩) (by show _ ≤ w.heap.size + 1; omega) _).setCell (p := ⟨w.heap.size + 1 + 1, 0, none⟩) (by show _ ≤ w.heap.size + 1 + 1; omega) _).setCell (p := ⟨w.heap.size + 1 + 1 + 1, 0, none⟩) (by show _ ≤ w.heap.size + 1 + 1 + 1; omega) _
          have OF : Wf.ownsRow W.heap.size 3 1 (.slice qa o.length qc) o.length (o.map (Value.int .i64)) := by
            rw [hWf]
            exact ownsRow_setCell_below (ownsRow_setCell_below (ownsRow_setCell_below O5 (a := ⟨w.heap.size + 1, 0, none⟩) (by show w.heap.size + 1 < _; omega) _) (a := ⟨w.heap.size + 1 + 1, 0, none⟩) (by show w.heap.size + 1 + 1 < _; omega) _) (a := ⟨w.heap.size + 1 + 1 + 1, 0, none⟩) z3 _
          have PF : ParsAt w.heap.size Wf (.slice pa ps.length pc) ps := by
            rw [hWf]
            exact (((HIL.out.pars.ext X5).set q1 (by decide) (by decide)).set q2 (by decide) (by decide)).set q3 (by decide) (by decide)
          rw [← hWf]
          clear hWf e0 e1 e2 e3 f1 f2 f3 q1 q2 q3
          have OP := own_base (own_keep OF (keep_put (o := .deferred none) hKf rfl)) (show w.heap.size ≤ W.heap.size by omega)
          have PP := PF.keep (keep_put (o := .deferred none) hKf rfl) (keep_put (o := .deferred none) hKf rfl)
          have XF : Ext w (Wf.putObj D (.deferred none)) := xf.trans (belowK_b (w := w) (Nat.le_refl _) Wf D _ _ (by omega) hKf rfl rfl)
          have k0 := (r1.put (o := .deferred none) (D := D) (by omega)).cells 0 rfl
          have k1 := (r2.put (o := .deferred none) (D := D) (by omega)).cells 0 rfl
          have k2 := (r3.put (o := .deferred none) (D := D) (by omega)).cells 0 rfl
          rw [Exit.noGoto_ret]
          change bodyPostM _ _ _ _ _ _ _ _
          refine ⟨by simp, .inl ⟨_, _, rfl, run_takeDeferred hKf, ?_⟩⟩
          generalize Wf.putObj D (.deferred none) = Wp at *
          refine ⟨.tuple #[.slice qa o.length qc, .slice pa ps.length pc, .int .i64 0], ?_, ?_⟩
          · simp [results, Tryd.results22, go_sem, k0, k1, k2]
          · have h := HT.out
            rw [HINF.out] at h
            simp only [if_neg HX.out] at h
            rw [← h]
            exact ⟨qa, qc, pa, pc, rfl, XF, OP, PP⟩
      · have t1 : (d.loss == 1) = false := by simpa using hl
        clear hx
        go_wp2_with fail
        go_region_with ((go_at_call 34; refine (CL.out _ (by repeat (first | with_reducible exact Ext.refl _ | with_reducible apply Ext.drew | with_reducible apply Ext.drewN | with_reducible apply Ext.alloc | ((with_reducible refine Ext.setCell ?_ ?_ _); rotate_left; focus (first | (simp; done) | (simp; omega) | omega)) | with_reducible refine Ext.tr ?_ x1 | with_reducible refine Ext.tr ?_ x2 | with_reducible refine Ext.tr ?_ x5 | with_reducible refine Ext.tr ?_ xa | with_reducible refine Ext.tr ?_ xc | with_reducible refine Ext.tr ?_ xf | with_reducible refine Ext.tr ?_ hx | with_reducible assumption))).mono ?_; rintro e v5 ⟨qa, qc, rfl, x5, h5⟩; obtain ⟨c5, f5⟩ := x5.rules; have z5 := x5.size; have k5_1_0 := c5 (w.heap.size + 1) 0 (by first | (simp; done) | (simp; omega) | omega); have q5_1_0 := f5 (w.heap.size + 1) 0 (by first | (simp; done) | (simp; omega) | omega); have k5_2_0 := c5 (w.heap.size + 2) 0 (by first | (simp; done) | (simp; omega) | omega); have q5_2_0 := f5 (w.heap.size + 2) 0 (by first | (simp; done) | (simp; omega) | omega); have k5_3_0 := c5 (w.heap.size + 3) 0 (by first | (simp; done) | (simp; omega) | omega); have q5_3_0 := f5 (w.heap.size + 3) 0 (by first | (simp; done) | (simp; omega) | omega); have z5_0 : w.heap.size < v5.heap.size := (by (try simp at z5); omega); have z5_1 : w.heap.size + 1 < v5.heap.size := (by (try simp at z5); omega); have z5_2 : w.heap.size + 2 < v5.heap.size := (by (try simp at z5); omega); have z5_3 : w.heap.size + 3 < v5.heap.size := (by (try simp at z5); omega); (try simp at z5); clear c5 f5; simp [go_sem, *] at k5_1_0 q5_1_0 k5_2_0 q5_2_0 k5_3_0 q5_3_0))
        all_goals
          go_wp2_with fail
          have X5 : Ext W v5 := (by repeat (first | with_reducible exact Ext.refl _ | with_reducible apply Ext.drew | with_reducible apply Ext.drewN | with_reducible apply Ext.alloc | ((with_reducible refine Ext.setCell ?_ ?_ _); rotate_left; focus (first | (simp; done) | (simp; omega) | omega)) | with_reducible refine Ext.tr ?_ x1 | with_reducible refine Ext.tr ?_ x2 | with_reducible refine Ext.tr ?_ x5 | with_reducible refine Ext.tr ?_ xa | with_reducible refine Ext.tr ?_ xc | with_reducible refine Ext.tr ?_ xf | with_reducible refine Ext.tr ?_ hx | with_reducible assumption))
          have O5 : v5.ownsRow W.heap.size 3 1 (.slice qa o.length qc) o.length (o.map (Value.int .i64)) := h5
          clear x5 h5
          obtain ⟨Wf, hWf⟩ : ∃ Wf, Wf = (((v5.setCell ⟨w.heap.size + 1, 0, none⟩ (.slice qa o.length qc)).setCell ⟨w.heap.size + 1 + 1, 0, none⟩ (.slice pa ps.length pc)).setCell ⟨w.heap.size + 1 + 1 + 1, 0, none⟩ (.int .i64 0)) := ⟨_, rfl⟩
          have q1 : Blk v5 (w.heap.size + 1) 24 #[.slice oa o.length oc] := HIL.out.b1.ext X5
          have q2 : Blk (v5.setCell ⟨w.heap.size + 1, 0, none⟩ (.slice qa o.length qc)) (w.heap.size + 1 + 1) 28 #[.slice pa ps.length pc] := (HIL.out.b2.ext X5).far (p := ⟨w.heap.size + 1, 0, none⟩) (by show _ ≠ w.heap.size + 1; omega) _
          have q3 : Blk ((v5.setCell ⟨w.heap.size + 1, 0, none⟩ (.slice qa o.length qc)).setCell ⟨w.heap.size + 1 + 1, 0, none⟩ (.slice pa ps.length pc)) (w.heap.size + 1 + 1 + 1) 32 #[.int .i64 0] := ((HIL.out.b3.ext X5).far (p := ⟨w.heap.size + 1, 0, none⟩) (by show _ ≠ w.heap.size + 1; omega) _).far (p := ⟨w.heap.size + 1 + 1, 0, none⟩) (by show _ ≠ w.heap.size + 1 + 1; omega) _
          have r1 : Blk Wf (w.heap.size + 1) 24 #[.slice qa o.length qc] := by
            rw [hWf]; exact ((q1.set_ 0 _).far (p := ⟨w.heap.size + 1 + 1, 0, none⟩) (by show _ ≠ w.heap.size + 1 + 1; omega) _).far (p := ⟨w.heap.size + 1 + 1 + 1, 0, none⟩) (by show _ ≠ w.heap.size + 1 + 1 + 1; omega) _
          have r2 : Blk Wf (w.heap.size + 1 + 1) 28 #[.slice pa ps.length pc] := by
            rw [hWf]; exact (q2.set_ 0 _).far (p := ⟨w.heap.size + 1 + 1 + 1, 0, none⟩) (by show _ ≠ w.heap.size + 1 + 1 + 1; omega) _
          have r3 : Blk Wf (w.heap.size + 1 + 1 + 1) 32 #[.int .i64 0] := by
            rw [hWf]; exact q3.set_ 0 _
          have hDW : D < W.heap.size := (Array.getElem?_eq_some_iff.1 HK.out).1
          have hKf : Wf.heap[D]? = some (.deferred (some [])) := by
            rw [hWf]
            exact (Below.heap_setCell _ _ _ D (by show D ≠ w.heap.size + 1 + 1 + 1; omega)).trans ((Below.heap_setCell _ _ _ D (by show D ≠ w.heap.size + 1 + 1; omega)).trans ((Below.heap_setCell _ _ _ D (by show D ≠ w.heap.size + 1; omega)).trans ((X5.block D hDW).trans HK.out)))
          have xf : Ext w Wf := by
            rw [hWf]
            exact (((HIL.out.ext.tr X5).setCell (p := ⟨w.heap.size + 1, 0, none⟩) (by show _ ≤ w.heap.size + 1; omega) _).setCell (p := ⟨w.heap.size + 1 + 1, 0, none⟩) (by show _ ≤ w.heap.size + 1 + 1; omega) _).setCell (p := ⟨w.heap.size + 1 + 1 + 1, 0, none⟩) (by show _ ≤ w.heap.size + 1 + 1 + 1; omega) _
          have OF : Wf.ownsRow W.heap.size 3 1 (.slice qa o.length qc) o.length (o.map (Value.int .i64)) := by
            rw [hWf]
            exact ownsRow_setCell_below (ownsRow_setCell_below (ownsRow_setCell_below O5 (a := ⟨w.heap.size + 1, 0, none⟩) (by show w.heap.size + 1 < _; omega) _) (a := ⟨w.heap.size + 1 + 1, 0, none⟩) (by show w.heap.size + 1 + 1 < _; omega) _) (a := ⟨w.heap.size + 1 + 1 + 1, 0, none⟩) z3 _
          have PF : ParsAt w.heap.size Wf (.slice pa ps.length pc) ps := by
            rw [hWf]
            exact (((HIL.out.pars.ext X5).set q1 (by decide) (by decide)).set q2 (by decide) (by decide)).set q3 (by decide) (by decide)
          rw [← hWf]
          clear hWf e0 e1 e2 e3 f1 f2 f3 q1 q2 q3
          have OP := own_base (own_keep OF (keep_put (o := .deferred none) hKf rfl)) (show w.heap.size ≤ W.heap.size by omega)
          have PP := PF.keep (keep_put (o := .deferred none) hKf rfl) (keep_put (o := .deferred none) hKf rfl)
          have XF : Ext w (Wf.putObj D (.deferred none)) := xf.trans (belowK_b (w := w) (Nat.le_refl _) Wf D _ _ (by omega) hKf rfl rfl)
          have k0 := (r1.put (o := .deferred none) (D := D) (by omega)).cells 0 rfl
          have k1 := (r2.put (o := .deferred none) (D := D) (by omega)).cells 0 rfl
          have k2 := (r3.put (o := .deferred none) (D := D) (by omega)).cells 0 rfl
          rw [Exit.noGoto_ret]
          change bodyPostM _ _ _ _ _ _ _ _
          refine ⟨by simp, .inl ⟨_, _, rfl, run_takeDeferred hKf, ?_⟩⟩
          generalize Wf.putObj D (.deferred none) = Wp at *
          refine ⟨.tuple #[.slice qa o.length qc, .slice pa ps.length pc, .int .i64 0], ?_, ?_⟩
          · simp [results, Tryd.results22, go_sem, k0, k1, k2]
          · have h := HT.out
            rw [HINF.out] at h
            simp only [if_neg HX.out] at h
            rw [← h]
            exact ⟨qa, qc, pa, pc, rfl, XF, OP, PP⟩
  case round =>
    intro l pre x W hsz2 hp hat hi
    have hszW : w.heap.size + 3 < W.heap.size := by
      obtain ⟨oa, pa, oc, pc, h⟩ := hi
      exact h.b3.lt
    have HI := Lib.hid hi
    have HP := Lib.hid hp
    obtain ⟨f, ba', bn, bc, ia, iN, ic, oa, oN, oc, pa, pn, pc, fi, nm, fin, hcells, hrest⟩ := hat
    obtain ⟨kx, cx, ⟨bd, ot, qs⟩⟩ := x
    simp only at hcells hrest
    subst hcells
    have HREST := Lib.hid hrest
    obtain ⟨ST, hST⟩ : ∃ ST, ST = stepA f (.slice ba' bn bc) (.slice ia iN ic) (.slice oa oN oc) (.slice pa pn pc) fi nm bd fin := ⟨_, rfl⟩
    obtain ⟨EV, hEV⟩ : ∃ EV : EvV, EV = ⟨kx, stepA f (.slice ba' bn bc) (.slice ia iN ic) (.slice oa oN oc) (.slice pa pn pc) fi nm bd fin, ⟨bd, ot, qs⟩⟩ := ⟨_, rfl⟩
    have HEV := Lib.hid hEV
    rw [← hEV] at HP ⊢
    rw [show encEv EV = #[.int .i64 kx, .agg #[.int .i64 f.kind, .int .i64 f.inn, .int .i64 f.out, .int .i64 f.size, .int .i64 f.stride, .int .i64 f.pad, .int .i64 f.percent, .int .i64 f.heads, .slice ba' bn bc, .slice ia iN ic, .slice oa oN oc, .slice pa pn pc, .bool fi, .string nm, .int .i64 bd, .bool fin]] by rw [hEV]; rfl]
    have XA : Ext W (W.alloc (.cells ST 71)) := (Ext.refl W).alloc _
    have HXA := Lib.hid XA
    have HST := Lib.hid hST
    have hszV : w.heap.size ≤ V.heap.size := by omega
    rw [hST] at HXA
    clear hi hp hrest IL IT hST hEV XA k1_0_0 q1_0_0 k1_0_1 q1_0_1 k1_0_2 q1_0_2 k1_1_0 q1_1_0 k1_2_0 q1_2_0 k1_3_0 q1_3_0 k2_0_0 q2_0_0 k2_0_1 q2_0_1 k2_0_2 q2_0_2 k2_1_0 q2_1_0 k2_2_0 q2_2_0 k2_3_0 q2_3_0 z1 z1_0 z1_1 z1_2 z1_3 z2 z2_0 z2_1 z2_2 z2_3
    gi_wp2
    refine ⟨KeepsOthers.alloc _ _, KD.ext HXA.out, ?_, fun Y => Blk Y W.heap.size 71 (stepA f (.slice ba' bn bc) (.slice ia iN ic) (.slice oa oN oc) (.slice pa pn pc) fi nm bd fin) ∧ (bd = 0 → oN = ot.length ∧ RowS w.heap.size Y (.slice oa oN oc) ot ∧ pn = qs.length ∧ ParsAt w.heap.size Y (.slice pa pn pc) qs), ?_, ⟨Blk.new _ _ _, fun hb => ?_⟩, fun W2 hlt2 hi2 hax2 => ?_⟩
    · obtain ⟨oa', pa', oc', pc', h⟩ := HI.out
      exact ⟨_, _, _, _, h.kpt (Kpt.of_ext HXA.out)⟩
    · intro s A' B' row hs hg hr
      have kp : Kpt w.heap.size A' B' := Kpt.grown hg (fun r e => ⟨by have := (hr r e).1; simp at this; omega, (hr r e).2⟩)
      exact ⟨hs.1.kept hg (fun r e => (hr r e).2), fun hb => by
        obtain ⟨e1, e2, e3, e4⟩ := hs.2 hb
        exact ⟨e1, e2.kpt kp, e3, e4.keep (fun i cs fr _ e => kp.cells i cs _ fr (by decide) e) (fun i cs fr _ e => kp.cells i cs _ fr (by decide) e)⟩⟩
    · obtain ⟨e1, e2, e3, e4⟩ := HREST.out hb
      exact ⟨e1, e2.ext HXA.out, e3, e4.ext HXA.out⟩
    obtain ⟨oa0, pa0, oc0, pc0, il⟩ := hi2
    obtain ⟨hst, hrs⟩ := hax2
    have s10 := hst.cells 10 (show _ = some (.slice oa oN oc) from rfl)
    have s11 := hst.cells 11 (show _ = some (.slice pa pn pc) from rfl)
    have s14 := hst.cells 14 (show _ = some (.int .i64 bd) from rfl)
    have e1 : W2.cell? ⟨w.heap.size + 1, 0, none⟩ = some (.slice oa0 (lastOut d.input pre).length oc0) := il.b1.cells 0 rfl
    have e2 : W2.cell? ⟨w.heap.size + 1 + 1, 0, none⟩ = some (.slice pa0 (parsOf pre).length pc0) := il.b2.cells 0 rfl
    have e3 : W2.cell? ⟨w.heap.size + 1 + 1 + 1, 0, none⟩ = some (.int .i64 0) := il.b3.cells 0 rfl
    have f1 : W2.frozen? ⟨w.heap.size + 1, 0, none⟩ = false := il.b1.frozen 0
    have f2 : W2.frozen? ⟨w.heap.size + 1 + 1, 0, none⟩ = false := il.b2.frozen 0
    have f3 : W2.frozen? ⟨w.heap.size + 1 + 1 + 1, 0, none⟩ = false := il.b3.frozen 0
    have b1 : Blk W2 (w.heap.size + 1) 24 #[.slice oa0 (lastOut d.input pre).length oc0] := il.b1
    have b2 : Blk W2 (w.heap.size + 1 + 1) 28 #[.slice pa0 (parsOf pre).length pc0] := il.b2
    have b3 : Blk W2 (w.heap.size + 1 + 1 + 1) 32 #[.int .i64 0] := il.b3
    have z3 := b3.lt
    have zS := hst.lt
    have hW3 : w.heap.size + 1 + 1 + 1 < W.heap.size := hszW
    have HIL := Lib.hid il
    have kd3 := KD.set (o := 0) (u := .int .i64 bd) (KD.ext (B := w.heap.size) (Ext.refl W2)) b3 (by omega) (by decide) (by decide) (by decide) (by decide)
    by_cases hb : bd = 0
    · subst hb
      obtain ⟨rfl, rv, rfl, pv⟩ := hrs rfl
      have HRV := Lib.hid rv
      have b1' := b1.far (p := ⟨w.heap.size + 1 + 1 + 1, 0, none⟩) (by show _ ≠ w.heap.size + 1 + 1 + 1; omega) (.int .i64 0)
      have b2' := (b2.far (p := ⟨w.heap.size + 1 + 1 + 1, 0, none⟩) (by show _ ≠ w.heap.size + 1 + 1 + 1; omega) (.int .i64 0)).far (p := ⟨w.heap.size + 1, 0, none⟩) (by show _ ≠ w.heap.size + 1; omega) (.slice oa ot.length oc)
      have b3' := (b3.set_ 0 (.int .i64 0)).far (p := ⟨w.heap.size + 1, 0, none⟩) (by show _ ≠ w.heap.size + 1; omega) (.slice oa ot.length oc)
      have b0' := (il.b0.far (p := ⟨w.heap.size + 1 + 1 + 1, 0, none⟩) (by show _ ≠ w.heap.size + 1 + 1 + 1; omega) (.int .i64 0)).far (p := ⟨w.heap.size + 1, 0, none⟩) (by show _ ≠ w.heap.size + 1; omega) (.slice oa ot.length oc)
      have hsz3 : w.heap.size ≤ ((W2.setCell ⟨w.heap.size + 1 + 1 + 1, 0, none⟩ (.int .i64 0)).setCell ⟨w.heap.size + 1, 0, none⟩ (.slice oa ot.length oc)).heap.size := by simp; omega
      have P1 := (il.pars.set (o := 0) (u := .int .i64 0) b3 (by decide) (by decide)).set (o := 0) (u := .slice oa ot.length oc) b1' (by decide) (by decide)
      obtain ⟨qa, qc, w', hr, hpp, hg⟩ := pars_append P1 ((pv.set (o := 0) (u := .int .i64 0) b3 (by decide) (by decide)).set (o := 0) (u := .slice oa ot.length oc) b1' (by decide) (by decide)) (by
        have h := HP.out
        unfold PreEv at h
        rw [parsOf_app, List.length_append, show parsOf [EV] = qs by rw [HEV.out]; simp [parsOf]] at h
        exact h) hsz3
      have hrow := P1.typed
      have bC : Blk w' (w.heap.size + 1 + 1) 28 #[.slice pa0 (parsOf pre).length pc0] := b2'.pgrown hg hrow (by decide)
      have k2 : w'.cell? ⟨w.heap.size + 1 + 1, 0, none⟩ = some (.slice pa0 (parsOf pre).length pc0) := bC.cells 0 rfl
      have g2 : w'.frozen? ⟨w.heap.size + 1 + 1, 0, none⟩ = false := bC.frozen 0
      have HNEW : Hid (roundEndsG (KD w.heap.size) (goEv EV) (InfIn w #[.slice a1 d.input.length c1, .slice a2 d.layers.length c2, .int .i64 d.loss] d.input) (InfOut w #[.slice a1 d.input.length c1, .slice a2 d.layers.length c2, .int .i64 d.loss]) (pre ++ [EV]) W2 .normal (⟨#[], []⟩ : Act) (w'.setCell ⟨w.heap.size + 1 + 1, 0, none⟩ (.slice qa (parsOf pre ++ qs).length qc))) := Lib.hid (by
        refine ⟨by rw [HEV.out]; rfl, ?_, ?_, ⟨oa, qa, oc, qc, ?_⟩⟩
        · exact (((KeepsOthers.setCell _ _ _).trans (KeepsOthers.setCell _ _ _)).trans (KeepsOthers.of_grownBy hg (fun j o e1 e2 => by
            obtain ⟨-, cs, fr, e3⟩ := hrow j e1
            rw [e3] at e2
            cases e2
            rfl))).trans (KeepsOthers.setCell _ _ _)
        · exact ((kd3.set b1' (by omega) (by decide) (by decide) (by decide) (by decide)).grown hg hrow).set bC (by omega) (by decide) (by decide) (by decide) (by decide)
        · have e1 : lastOut d.input (pre ++ [EV]) = ot := by rw [HEV.out]; simp [lastOut]
          have e2 : parsOf (pre ++ [EV]) = parsOf pre ++ qs := by rw [HEV.out]; simp [parsOf]
          rw [e1, e2]
          refine ⟨(b0'.pgrown hg hrow (by decide)).far (p := ⟨w.heap.size + 1 + 1, 0, none⟩) (by show _ ≠ w.heap.size + 1 + 1; omega) _, ((b1'.set_ 0 _).pgrown hg hrow (by decide)).far (p := ⟨w.heap.size + 1 + 1, 0, none⟩) (by show _ ≠ w.heap.size + 1 + 1; omega) _, bC.set_ 0 _, (b3'.pgrown hg hrow (by decide)).far (p := ⟨w.heap.size + 1 + 1, 0, none⟩) (by show _ ≠ w.heap.size + 1 + 1; omega) _, ?_, ?_, ?_⟩
          · exact ((((HRV.out.gb ((GB.refl W2 _).set 0 _) b3 (by decide) (by omega)).gb ((GB.refl _ _).set 0 _) b1' (by decide) (by omega)).pgrown hg hrow).gb ((GB.refl _ _).set 0 _) bC (by decide) (by omega))
          · exact hpp.set bC (by decide) (by decide)
          · exact (Ext.grown ((HIL.out.ext.setCell (p := ⟨w.heap.size + 1 + 1 + 1, 0, none⟩) (by show _ ≤ w.heap.size + 1 + 1 + 1; omega) _).setCell (p := ⟨w.heap.size + 1, 0, none⟩) (by show _ ≤ w.heap.size + 1; omega) _) hg (fun k e => (hrow k e).1)).setCell (p := ⟨w.heap.size + 1 + 1, 0, none⟩) (by show _ ≤ w.heap.size + 1 + 1; omega) _)
      clear hg hpp hrow bC P1 b0' b1' b2' b3' b1 b2 b3 kd3 il hst rv pv hrs hsz3
      rw [show (parsOf pre ++ qs).length = (parsOf pre).length + qs.length from List.length_append] at hr HNEW
      have HR := Lib.hid hr
      clear hr
      gi_wp2_with (gi_at_builtin; refine wpListIn_append_run rfl (.tmp 26) (.tmp 28) 28 rfl rfl rfl HR.out ?_)
      gi_wp2
      exact HNEW.out
    · have HNEW : Hid (roundEndsG (KD w.heap.size) (goEv EV) (InfIn w #[.slice a1 d.input.length c1, .slice a2 d.layers.length c2, .int .i64 d.loss] d.input) (InfOut w #[.slice a1 d.input.length c1, .slice a2 d.layers.length c2, .int .i64 d.loss]) (pre ++ [EV]) W2 (.exit 0) (⟨#[], []⟩ : Act) (W2.setCell ⟨w.heap.size + 1 + 1 + 1, 0, none⟩ (.int .i64 bd))) := Lib.hid (by
        refine ⟨by rw [HEV.out]; simpa [goEv] using hb, KeepsOthers.setCell _ _ _, rfl, lastOut d.input pre, parsOf pre, oa0, pa0, oc0, pc0, bd, pre, EV, ?_, rfl, by rw [HEV.out]⟩
        exact ⟨il.b0.far (p := ⟨w.heap.size + 1 + 1 + 1, 0, none⟩) (by show _ ≠ w.heap.size + 1 + 1 + 1; omega) _, b1.far (p := ⟨w.heap.size + 1 + 1 + 1, 0, none⟩) (by show _ ≠ w.heap.size + 1 + 1 + 1; omega) _, b2.far (p := ⟨w.heap.size + 1 + 1 + 1, 0, none⟩) (by show _ ≠ w.heap.size + 1 + 1 + 1; omega) _, b3.set_ 0 _, il.row.gb ((GB.refl W2 _).set 0 _) b3 (by decide) (by omega), il.pars.set b3 (by decide) (by decide), il.ext.setCell (p := ⟨w.heap.size + 1 + 1 + 1, 0, none⟩) (by show _ ≤ w.heap.size + 1 + 1 + 1; omega) _⟩)
      have hb' : (bd != 0) = true := by simpa using hb
      clear b1 b2 b3 kd3 il hst hrs hb
      gi_wp2
      exact HNEW.out
end Go.Proofs.YtgokenbojppnhaaDoor
namespace Go.Proofs.YtgokenbojppnhaaDoor
open Go.RowKit
theorem infer_any {A : Nat → Prop} {n : Nat} {w : World} {v : Value} {d : DefL} (h : DefAt A n w v d) :
    Calls Tryd.prog 22 #[v] w fun e w' => InferP w.heap.size w e w' (toldS d) := by
  unfold toldS
  cases hg : goodD d with
  | false => rw [if_pos rfl]; exact infer_bad1 h hg
  | true =>
    rw [if_neg (by simp)]
    cases hf : fullS d.input with
    | false => rw [if_pos rfl]; exact infer_bad5 h hg hf
    | true =>
      rw [if_neg (by simp)]
      exact infer_good h hg hf
/-- What Out and Params promise. -/
def OutP (base : Nat) (w : World) (e : Ending) (w' : World) : Told → Prop
  | .bad b => e = .returned (.tuple #[.slice none 0 0, .int .i64 b]) ∧ Ext w w'
  | .ok x _ => ∃ xa xc, e = .returned (.tuple #[.slice xa x.length xc, .int .i64 0]) ∧ Ext w w' ∧ w'.ownsRow base 3 1 (.slice xa x.length xc) x.length (x.map (Value.int .i64))
def ParamsP (base : Nat) (w : World) (e : Ending) (w' : World) : Told → Prop
  | .bad b => e = .returned (.tuple #[.slice none 0 0, .int .i64 b]) ∧ Ext w w'
  | .ok _ ps => ∃ pa pc, e = .returned (.tuple #[.slice pa ps.length pc, .int .i64 0]) ∧ Ext w w' ∧ ParsAt base w' (.slice pa ps.length pc) ps
theorem def_ext {A : Nat → Prop} {n : Nat} {w u : World} {v : Value} {d : DefL} (h : DefAt A n w v d) (x : Ext w u) : DefAt A n u v d :=
  ⟨by obtain ⟨a1, c1, a2, c2, e, hi, hl⟩ := h.is; exact ⟨a1, c1, a2, c2, e, hi.ext x, hl.ext x⟩, fun b hb => Nat.lt_of_lt_of_le (h.below b hb) x.size⟩
set_option maxHeartbeats 1000000 in
theorem out_any {A : Nat → Prop} {n : Nat} {w : World} {v : Value} {d : DefL} (h : DefAt A n w v d) :
    Calls Tryd.prog 9 #[v] w fun e w' => OutP w.heap.size w e w' (toldS d) := by
  have IN := Lib.hid (fun u (x : Ext w u) => infer_any (def_ext h x))
  obtain ⟨a1, c1, a2, c2, rfl, -, -⟩ := h.is
  clear h
  cases hT : toldS d with
  | bad b =>
    rw [hT] at IN
    clear hT
    go_enter Tryd.func9, Tryd.ntmps9
    go_wp2_with fail
    refine (IN.out _ (by repeat (first | with_reducible exact Ext.refl _ | with_reducible apply Ext.drew | with_reducible apply Ext.drewN | with_reducible apply Ext.alloc | ((with_reducible refine Ext.setCell ?_ ?_ _); rotate_left; focus (first | (simp; done) | (simp; omega) | omega)) | with_reducible refine Ext.tr ?_ x1 | with_reducible refine Ext.tr ?_ x2 | with_reducible refine Ext.tr ?_ x5 | with_reducible refine Ext.tr ?_ xa | with_reducible refine Ext.tr ?_ xc | with_reducible refine Ext.tr ?_ xf | with_reducible refine Ext.tr ?_ hx | with_reducible assumption))).mono ?_; rintro e v1 ⟨rfl, x1⟩; obtain ⟨c1, f1⟩ := x1.rules; have z1 := x1.size
    go_wp2
    go_ret2
    exact ⟨rfl, (by repeat (first | with_reducible exact Ext.refl _ | with_reducible apply Ext.drew | with_reducible apply Ext.drewN | with_reducible apply Ext.alloc | ((with_reducible refine Ext.setCell ?_ ?_ _); rotate_left; focus (first | (simp; done) | (simp; omega) | omega)) | with_reducible refine Ext.tr ?_ x1 | with_reducible refine Ext.tr ?_ x2 | with_reducible refine Ext.tr ?_ x5 | with_reducible refine Ext.tr ?_ xa | with_reducible refine Ext.tr ?_ xc | with_reducible refine Ext.tr ?_ xf | with_reducible refine Ext.tr ?_ hx | with_reducible assumption))⟩
  | ok x ps =>
    rw [hT] at IN
    clear hT
    go_enter Tryd.func9, Tryd.ntmps9
    go_wp2_with fail
    refine (IN.out _ (by repeat (first | with_reducible exact Ext.refl _ | with_reducible apply Ext.drew | with_reducible apply Ext.drewN | with_reducible apply Ext.alloc | ((with_reducible refine Ext.setCell ?_ ?_ _); rotate_left; focus (first | (simp; done) | (simp; omega) | omega)) | with_reducible refine Ext.tr ?_ x1 | with_reducible refine Ext.tr ?_ x2 | with_reducible refine Ext.tr ?_ x5 | with_reducible refine Ext.tr ?_ xa | with_reducible refine Ext.tr ?_ xc | with_reducible refine Ext.tr ?_ xf | with_reducible refine Ext.tr ?_ hx | with_reducible assumption))).mono ?_; rintro e v1 ⟨xa, xc, pa, pc, rfl, x1, o1, p1⟩; obtain ⟨c1, f1⟩ := x1.rules; have z1 := x1.size
    have O := Lib.hid o1
    clear o1 p1
    go_wp2
    go_ret2
    exact ⟨xa, xc, rfl, (by repeat (first | with_reducible exact Ext.refl _ | with_reducible apply Ext.drew | with_reducible apply Ext.drewN | with_reducible apply Ext.alloc | ((with_reducible refine Ext.setCell ?_ ?_ _); rotate_left; focus (first | (simp; done) | (simp; omega) | omega)) | with_reducible refine Ext.tr ?_ x1 | with_reducible refine Ext.tr ?_ x2 | with_reducible refine Ext.tr ?_ x5 | with_reducible refine Ext.tr ?_ xa | with_reducible refine Ext.tr ?_ xc | with_reducible refine Ext.tr ?_ xf | with_reducible refine Ext.tr ?_ hx | with_reducible assumption)), own_base O.out (by simp)⟩
set_option maxHeartbeats 1000000 in
theorem params_any {A : Nat → Prop} {n : Nat} {w : World} {v : Value} {d : DefL} (h : DefAt A n w v d) :
    Calls Tryd.prog 10 #[v] w fun e w' => ParamsP w.heap.size w e w' (toldS d) := by
  have IN := Lib.hid (fun u (x : Ext w u) => infer_any (def_ext h x))
  obtain ⟨a1, c1, a2, c2, rfl, -, -⟩ := h.is
  clear h
  cases hT : toldS d with
  | bad b =>
    rw [hT] at IN
    clear hT
    go_enter Tryd.func10, Tryd.ntmps10
    go_wp2_with fail
    refine (IN.out _ (by repeat (first | with_reducible exact Ext.refl _ | with_reducible apply Ext.drew | with_reducible apply Ext.drewN | with_reducible apply Ext.alloc | ((with_reducible refine Ext.setCell ?_ ?_ _); rotate_left; focus (first | (simp; done) | (simp; omega) | omega)) | with_reducible refine Ext.tr ?_ x1 | with_reducible refine Ext.tr ?_ x2 | with_reducible refine Ext.tr ?_ x5 | with_reducible refine Ext.tr ?_ xa | with_reducible refine Ext.tr ?_ xc | with_reducible refine Ext.tr ?_ xf | with_reducible refine Ext.tr ?_ hx | with_reducible assumption))).mono ?_; rintro e v1 ⟨rfl, x1⟩; obtain ⟨c1, f1⟩ := x1.rules; have z1 := x1.size
    go_wp2
    go_ret2
    exact ⟨rfl, (by repeat (first | with_reducible exact Ext.refl _ | with_reducible apply Ext.drew | with_reducible apply Ext.drewN | with_reducible apply Ext.alloc | ((with_reducible refine Ext.setCell ?_ ?_ _); rotate_left; focus (first | (simp; done) | (simp; omega) | omega)) | with_reducible refine Ext.tr ?_ x1 | with_reducible refine Ext.tr ?_ x2 | with_reducible refine Ext.tr ?_ x5 | with_reducible refine Ext.tr ?_ xa | with_reducible refine Ext.tr ?_ xc | with_reducible refine Ext.tr ?_ xf | with_reducible refine Ext.tr ?_ hx | with_reducible assumption))⟩
  | ok x ps =>
    rw [hT] at IN
    clear hT
    go_enter Tryd.func10, Tryd.ntmps10
    go_wp2_with fail
    refine (IN.out _ (by repeat (first | with_reducible exact Ext.refl _ | with_reducible apply Ext.drew | with_reducible apply Ext.drewN | with_reducible apply Ext.alloc | ((with_reducible refine Ext.setCell ?_ ?_ _); rotate_left; focus (first | (simp; done) | (simp; omega) | omega)) | with_reducible refine Ext.tr ?_ x1 | with_reducible refine Ext.tr ?_ x2 | with_reducible refine Ext.tr ?_ x5 | with_reducible refine Ext.tr ?_ xa | with_reducible refine Ext.tr ?_ xc | with_reducible refine Ext.tr ?_ xf | with_reducible refine Ext.tr ?_ hx | with_reducible assumption))).mono ?_; rintro e v1 ⟨xa, xc, pa, pc, rfl, x1, o1, p1⟩; obtain ⟨c1, f1⟩ := x1.rules; have z1 := x1.size
    have P := Lib.hid p1
    clear o1 p1
    go_wp2
    go_ret2
    exact ⟨pa, pc, rfl, (by repeat (first | with_reducible exact Ext.refl _ | with_reducible apply Ext.drew | with_reducible apply Ext.drewN | with_reducible apply Ext.alloc | ((with_reducible refine Ext.setCell ?_ ?_ _); rotate_left; focus (first | (simp; done) | (simp; omega) | omega)) | with_reducible refine Ext.tr ?_ x1 | with_reducible refine Ext.tr ?_ x2 | with_reducible refine Ext.tr ?_ x5 | with_reducible refine Ext.tr ?_ xa | with_reducible refine Ext.tr ?_ xc | with_reducible refine Ext.tr ?_ xf | with_reducible refine Ext.tr ?_ hx | with_reducible assumption)), P.out.base (by simp)⟩
end Go.Proofs.YtgokenbojppnhaaDoor
