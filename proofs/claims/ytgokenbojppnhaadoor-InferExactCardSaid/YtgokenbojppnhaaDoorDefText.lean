/- (*def.reader).one: a line's layer. Layers, as a world holds them. (*def.reader).body: what it reads; the reader as a world holds it. Layer 26 (def), the plain law: the page's own reading of a text is the program's. No function of the program is named here. Layer 26, the plain law: a definition's text; what is read is told as it stood. No function of the program is named here. -/
import Derived.Test.YtgokenbojppnhaaDoorDefRows
import Derived.Test.YtgokenbojppnhaaDoorGb
import Derived.BigQuiet
import Derived.Deep.DeepCutAuto
import Derived.Lib.ItoaNum
namespace Go.Proofs.YtgokenbojppnhaaDoor
open Go.RowKit
/-- A layer's cells. -/
def layA (f : LayF) (b : Value) : Array Value := #[.int .i64 f.kind, .int .i64 f.inn, .int .i64 f.out, .int .i64 f.size, .int .i64 f.stride, .int .i64 f.pad, .int .i64 f.percent, .int .i64 f.heads, b]
theorem layA_set (f : LayF) (b : Value) {p : Nat} (hp : p < 8) (x : Int) : (layA f b).setIfInBounds p (.int .i64 x) = layA (f.set p x) b := by
  have hh : p = 0 ∨ p = 1 ∨ p = 2 ∨ p = 3 ∨ p = 4 ∨ p = 5 ∨ p = 6 ∨ p = 7 := by omega
  rcases hh with rfl | rfl | rfl | rfl | rfl | rfl | rfl | rfl <;> rfl
theorem Blk.gb {w W : World} {g b : Nat} {t : TypeId} {cs : Array Value} (h : Blk w g t cs) (hb : GB w W b) (hne : g ≠ b) : Blk W g t cs := h.grown hb (fun e => hne (Option.some.inj e))
theorem GB.cell {w W : World} {b : Nat} {p : Addr} {v : Value} (h : GB w W b) (hc : w.cell? p = some v) (hne : p.block ≠ b) : W.cell? p = some v := by
  rw [← hc]
  exact World.cell?_of_block (h.block _ (cell_lt hc) (fun e => hne (Option.some.inj e)))
/-- A number that a word tells, within bounds. -/
theorem numR_cases (t : Bs) (lo hi : Int) : (∃ m, numB t = some m ∧ lo ≤ (m : Int) ∧ (m : Int) ≤ hi ∧ numR t lo hi = ((m : Int), true)) ∨ ((∀ m, numB t = some m → ¬ (lo ≤ (m : Int) ∧ (m : Int) ≤ hi)) ∧ (numR t lo hi).2 = false) := by
  unfold numR
  cases h : numB t with
  | none => exact .inr ⟨fun m h => (Option.some_ne_none m h.symm).elim, rfl⟩
  | some m =>
    by_cases c : lo ≤ (m : Int) ∧ (m : Int) ≤ hi
    · exact .inl ⟨m, rfl, c.1, c.2, by simp [c.1, c.2]⟩
    · refine .inr ⟨fun m' e => by cases e; exact c, ?_⟩
      simp only
      rcases Classical.not_and_iff_not_or_not.1 c with h1 | h1 <;> simp [h1]
theorem layA_at (f : LayF) (b : Value) {p : Nat} (hp : p < 8) : (layA f b)[p]? = some (.int .i64 (f.at p)) := by
  have hh : p = 0 ∨ p = 1 ∨ p = 2 ∨ p = 3 ∨ p = 4 ∨ p = 5 ∨ p = 6 ∨ p = 7 := by omega
  rcases hh with rfl | rfl | rfl | rfl | rfl | rfl | rfl | rfl <;> rfl
theorem lows_at {k j : Nat} (h : j < (placesK k).length) : (lowsK k).getD j 0 = lowK k j := by
  rw [List.getD_eq_getElem?_getD, lowsK, List.getElem?_map, List.getElem?_range h]; rfl
theorem highs_at {k j : Nat} (h : j < (placesK k).length) : (highsK k).getD j 0 = highK k := by
  rw [List.getD_eq_getElem?_getD, highsK, List.getElem?_map, List.getElem?_eq_getElem h]; rfl
theorem lows_len (k : Nat) : (lowsK k).length = (placesK k).length := by simp [lowsK]
theorem highs_len (k : Nat) : (highsK k).length = (placesK k).length := by simp [highsK]
theorem places_len (k : Nat) : (placesK k).length ≤ 5 := by unfold placesK; split <;> simp
theorem Blk.lay {W : World} {g : Nat} {t : TypeId} {f : LayF} {a : Option Addr} {n c : Nat} (h : Blk W g t (layA f (.slice a n c))) :
    W.cell? ⟨g, 0, none⟩ = some (.int .i64 f.kind) ∧ W.cell? ⟨g, 1, none⟩ = some (.int .i64 f.inn) ∧ W.cell? ⟨g, 2, none⟩ = some (.int .i64 f.out) ∧ W.cell? ⟨g, 3, none⟩ = some (.int .i64 f.size) ∧ W.cell? ⟨g, 4, none⟩ = some (.int .i64 f.stride) ∧
    W.cell? ⟨g, 5, none⟩ = some (.int .i64 f.pad) ∧ W.cell? ⟨g, 6, none⟩ = some (.int .i64 f.percent) ∧ W.cell? ⟨g, 7, none⟩ = some (.int .i64 f.heads) ∧ W.cell? ⟨g, 8, none⟩ = some (.slice a n c) ∧
    W.frozen? ⟨g, 0, none⟩ = false ∧ W.frozen? ⟨g, 1, none⟩ = false ∧ W.frozen? ⟨g, 2, none⟩ = false ∧ W.frozen? ⟨g, 3, none⟩ = false ∧ W.frozen? ⟨g, 4, none⟩ = false ∧ W.frozen? ⟨g, 5, none⟩ = false ∧ W.frozen? ⟨g, 6, none⟩ = false ∧ W.frozen? ⟨g, 7, none⟩ = false ∧ W.frozen? ⟨g, 8, none⟩ = false :=
  ⟨h.cell 0, h.cell 1, h.cell 2, h.cell 3, h.cell 4, h.cell 5, h.cell 6, h.cell 7, h.cell 8, h.frozen 0, h.frozen 1, h.frozen 2, h.frozen 3, h.frozen 4, h.frozen 5, h.frozen 6, h.frozen 7, h.frozen 8⟩
theorem places_ok {k p : Nat} (h : p ∈ placesK k) : 1 ≤ p ∧ p ≤ 7 := by
  unfold placesK at h
  split at h <;> simp at h <;> omega
set_option maxHeartbeats 1000000 in
theorem field_any {p : Nat} (h1 : 1 ≤ p) (h2 : p ≤ 7) (b : Nat) (w : World) : Calls Tryd.prog (fieldFn p) #[.pointer (some ⟨b, 0, none⟩)] w fun e w' => e = .returned (.pointer (some ⟨b, p, none⟩)) ∧ w = w' := by
  have hh : p = 1 ∨ p = 2 ∨ p = 3 ∨ p = 4 ∨ p = 5 ∨ p = 6 ∨ p = 7 := by omega
  rcases hh with rfl | rfl | rfl | rfl | rfl | rfl | rfl
  · show Calls Tryd.prog 72 _ _ _
    go_enter Tryd.func72, Tryd.ntmps72
    go_wp2
    go_ret
    exact ⟨rfl, rfl⟩
  · show Calls Tryd.prog 73 _ _ _
    go_enter Tryd.func73, Tryd.ntmps73
    go_wp2
    go_ret
    exact ⟨rfl, rfl⟩
  · show Calls Tryd.prog 74 _ _ _
    go_enter Tryd.func74, Tryd.ntmps74
    go_wp2
    go_ret
    exact ⟨rfl, rfl⟩
  · show Calls Tryd.prog 75 _ _ _
    go_enter Tryd.func75, Tryd.ntmps75
    go_wp2
    go_ret
    exact ⟨rfl, rfl⟩
  · show Calls Tryd.prog 76 _ _ _
    go_enter Tryd.func76, Tryd.ntmps76
    go_wp2
    go_ret
    exact ⟨rfl, rfl⟩
  · show Calls Tryd.prog 77 _ _ _
    go_enter Tryd.func77, Tryd.ntmps77
    go_wp2
    go_ret
    exact ⟨rfl, rfl⟩
  · show Calls Tryd.prog 78 _ _ _
    go_enter Tryd.func78, Tryd.ntmps78
    go_wp2
    go_ret
    exact ⟨rfl, rfl⟩
theorem field_enters {p : Nat} (h1 : 1 ≤ p) (h2 : p ≤ 7) (args : Array Value) (w : World) : (callFunc (fieldFn p) args).run Tryd.prog w = .ok (.enter (fieldFn p) args) w := by
  have hh : p = 1 ∨ p = 2 ∨ p = 3 ∨ p = 4 ∨ p = 5 ∨ p = 6 ∨ p = 7 := by omega
  rcases hh with rfl | rfl | rfl | rfl | rfl | rfl | rfl
  · exact enters_of Tryd.func72 (by kernel_rfl) rfl args w
  · exact enters_of Tryd.func73 (by kernel_rfl) rfl args w
  · exact enters_of Tryd.func74 (by kernel_rfl) rfl args w
  · exact enters_of Tryd.func75 (by kernel_rfl) rfl args w
  · exact enters_of Tryd.func76 (by kernel_rfl) rfl args w
  · exact enters_of Tryd.func77 (by kernel_rfl) rfl args w
  · exact enters_of Tryd.func78 (by kernel_rfl) rfl args w
/-- What one tells: a layer without a body, or none. -/
def oneV (f : Option LayF) : Value := match f with
  | some f => .tuple #[.agg (layA f (.slice none 0 0)), .bool true]
  | none => .tuple #[.agg (layA LayF.zero (.slice none 0 0)), .bool false]
end Go.Proofs.YtgokenbojppnhaaDoor
namespace Go.Proofs.YtgokenbojppnhaaDoor
open Go.RowKit
/-- Layers, n deep at most, in a world; all their blocks are such as A says. -/
def LaysAt (A : Nat → Prop) (w : World) : Nat → Value → List Lay → Prop
  | 0, v, L => L = [] ∧ ∃ a c, v = .slice a 0 c
  | n + 1, v, L => ∃ a cap, v = .slice a L.length cap ∧ L.length ≤ maxLen ∧ (L ≠ [] → ∃ b o, a = some ⟨b, o, none⟩ ∧ A b ∧ ∀ i (h : i < L.length), ∃ bv, (∃ a n c, bv = .slice a n c) ∧ (∀ j, j < 9 → w.cell? ⟨b, o + i * 9 + j, none⟩ = (layA L[i].f bv)[j]?) ∧ LaysAt A w n bv L[i].b)
theorem LaysAt.keep {A A' : Nat → Prop} {w w' : World} (hA : ∀ b, A b → A' b) (hw : ∀ b, A b → b < w.heap.size → w'.heap[b]? = w.heap[b]?) : ∀ {n : Nat} {v : Value} {L : List Lay}, LaysAt A w n v L → LaysAt A' w' n v L
  | 0, _, _, h => h
  | n + 1, _, L, h => by
    obtain ⟨a, cap, rfl, h1, h2⟩ := h
    refine ⟨a, cap, rfl, h1, fun hn => ?_⟩
    obtain ⟨b, o, rfl, hb, hc⟩ := h2 hn
    refine ⟨b, o, rfl, hA b hb, fun i hi => ?_⟩
    obtain ⟨bv, hs, h3, h4⟩ := hc i hi
    refine ⟨bv, hs, fun j hj => ?_, h4.keep hA hw⟩
    have e := h3 j hj
    have hlt : b < w.heap.size := by
      have hx : j < (layA L[i].f bv).size := by simpa [layA] using hj
      rw [Array.getElem?_eq_getElem hx] at e
      exact cell_lt e
    rw [← e]
    exact World.cell?_of_block (hw b hb hlt)
theorem LaysAt.up {A : Nat → Prop} {w : World} : ∀ {n : Nat} {v : Value} {L : List Lay}, LaysAt A w n v L → LaysAt A w (n + 1) v L
  | 0, _, _, ⟨h, a, c, e⟩ => by subst h; subst e; exact ⟨a, c, rfl, by simp, fun h => absurd rfl h⟩
  | n + 1, _, L, h => by
    obtain ⟨a, cap, rfl, h1, h2⟩ := h
    refine ⟨a, cap, rfl, h1, fun hn => ?_⟩
    obtain ⟨b, o, rfl, hb, hc⟩ := h2 hn
    refine ⟨b, o, rfl, hb, fun i hi => ?_⟩
    obtain ⟨bv, hs, h3, h4⟩ := hc i hi
    exact ⟨bv, hs, h3, h4.up⟩
theorem LaysAt.mono {A A' : Nat → Prop} {w : World} {n : Nat} {v : Value} {L : List Lay} (h : LaysAt A w n v L) (hA : ∀ b, A b → A' b) : LaysAt A' w n v L := h.keep hA (fun _ _ _ => rfl)
theorem LaysAt.ext {A : Nat → Prop} {w w' : World} {n : Nat} {v : Value} {L : List Lay} (h : LaysAt A w n v L) (x : Ext w w') : LaysAt A w' n v L := h.keep (fun _ h => h) (fun b _ hb => x.block b hb)
theorem LaysAt.nil (A : Nat → Prop) (w : World) (n : Nat) (a : Option Addr) (c : Nat) : LaysAt A w n (.slice a 0 c) [] := by
  cases n with
  | zero => exact ⟨rfl, a, c, rfl⟩
  | succ n => exact ⟨a, c, rfl, by simp, fun h => absurd rfl h⟩
theorem LaysAt.form {A : Nat → Prop} {w : World} {n : Nat} {v : Value} {L : List Lay} (h : LaysAt A w n v L) : ∃ a c, v = .slice a L.length c := by
  cases n with
  | zero => obtain ⟨rfl, a, c, e⟩ := h; exact ⟨a, c, e⟩
  | succ n => obtain ⟨a, c, e, -⟩ := h; exact ⟨a, c, e⟩
/-- The cells of layers, each with its body's value. -/
def layCells (ps : List (LayF × Value)) : List Value := ps.flatMap (fun p => (layA p.1 p.2).toList)
theorem layCells_len (ps : List (LayF × Value)) : (layCells ps).length = ps.length * 9 := by
  induction ps with
  | nil => rfl
  | cons p ps ih => simp only [layCells, List.flatMap_cons, List.length_append] at ih ⊢; rw [ih]; simp [layA]; omega
theorem layCells_at : ∀ (ps : List (LayF × Value)) (i : Nat) (h : i < ps.length) (j : Nat), j < 9 → (layCells ps)[i * 9 + j]? = (layA ps[i].1 ps[i].2)[j]?
  | [], i, h, _, _ => by simp at h
  | p :: ps, 0, _, j, hj => by
    simp only [layCells, List.flatMap_cons, Nat.zero_mul, Nat.zero_add, List.getElem_cons_zero]
    rw [List.getElem?_append_left (by simpa [layA] using hj), Array.getElem?_toList]
  | p :: ps, i + 1, h, j, hj => by
    have ih := layCells_at ps i (by simpa using h) j hj
    simp only [layCells, List.flatMap_cons, List.getElem_cons_succ] at ih ⊢
    rw [List.getElem?_append_right (by simp [layA]; omega)]
    rw [← ih]
    congr 1
    simp [layA]; omega
theorem layCells_snoc (ps : List (LayF × Value)) (p : LayF × Value) : layCells (ps ++ [p]) = layCells ps ++ (layA p.1 p.2).toList := by simp [layCells]
theorem lay_info : (Tryd.prog.info? 52).map (fun i => (i.zero, i.size, i.bytes)) = some (some (.agg (layA LayF.zero (.slice none 0 0))), 9, 88) := by kernel_rfl
theorem oneL_1 (f : LayF) (a : Option Addr) (n c : Nat) : ∀ u ∈ (layA f (.slice a n c)).toList, u.oneCell' = true := by
  intro u hu
  simp only [layA, List.mem_cons, List.not_mem_nil, or_false] at hu
  rcases hu with rfl | rfl | rfl | rfl | rfl | rfl | rfl | rfl | rfl <;> rfl
theorem newsL_1 (w : World) (f : LayF) (v : Value) (t : TypeId) : ∀ j u, (layA f v).toList[j]? = some u → (w.alloc (.cells (layA f v) t)).cell? ((⟨w.heap.size, 0, none⟩ : Addr).add j) = some u :=
  World.news_of_block (cs := layA f v) (t := t) (fr := (0, 0)) (heap_alloc_new w _)
/-- Layers out of an own row. -/
theorem LaysAt.of_owns {A : Nat → Prop} {w : World} {base : Nat} {v : Value} {n k : Nat} {ps : List (LayF × Value)} {L : List Lay} (h : w.ownsRow base 52 9 v n (layCells ps)) (hA : ∀ b, v.ownBlock = some b → A b)
    (hl : L.length = ps.length) (hm : L.length ≤ maxLen) (hf : ∀ i (h1 : i < L.length) (h2 : i < ps.length), L[i].f = ps[i].1 ∧ (∃ a n c, ps[i].2 = .slice a n c) ∧ LaysAt A w k ps[i].2 L[i].b) : LaysAt A w (k + 1) v L := by
  have hn : ps.length = n := by have := h.1; rw [layCells_len] at this; omega
  rcases h.2 with ⟨rfl, h0⟩ | ⟨g, cap, cur, rfl, hb, hg, h1, h2, h3, h4⟩
  · have : L = [] := List.eq_nil_of_length_eq_zero (by omega)
    subst this
    exact ⟨none, 0, rfl, by simp, fun h => absurd rfl h⟩
  · refine ⟨_, cap, by rw [hl, hn], hm, fun _ => ⟨g, 0, rfl, hA g rfl, fun i hi => ?_⟩⟩
    obtain ⟨e1, e2, e3⟩ := hf i hi (by omega)
    refine ⟨ps[i].2, e2, fun j hj => ?_, e3⟩
    have := h.cellAt (i * 9 + j) (by have : i < n := by omega
                                     omega)
    rw [Nat.zero_add, e1, ← layCells_at ps i (by omega) j hj]
    exact this
/-- Layers that may be written: own blocks, n deep at most. -/
def OwnL (A : Nat → Prop) (w : World) : Nat → Value → Prop
  | 0, v => v = .slice none 0 0
  | n + 1, v => v = .slice none 0 0 ∨ ∃ g len cap cur, v = .slice (some ⟨g, 0, none⟩) len cap ∧ A g ∧ Blk w g 52 cur ∧ cur.size = cap * 9 ∧ len ≤ cap ∧ cap ≤ maxLen ∧ len ≤ 100000 ∧ ∀ i, i < len → (∀ p, p < 8 → ∃ x, cur[i * 9 + p]? = some (.int .i64 x)) ∧ ∃ bv, cur[i * 9 + 8]? = some bv ∧ OwnL A w n bv
theorem OwnL.keep {A A' : Nat → Prop} {w w' : World} (hA : ∀ b, A b → A' b) (hw : ∀ b, A b → b < w.heap.size → w'.heap[b]? = w.heap[b]?) : ∀ {n : Nat} {v : Value}, OwnL A w n v → OwnL A' w' n v
  | 0, _, h => h
  | n + 1, _, .inl h => .inl h
  | n + 1, _, .inr h => by
    obtain ⟨g, len, cap, cur, rfl, h1, h2, h3, h4, h5, h5', h6⟩ := h
    refine .inr ⟨g, len, cap, cur, rfl, hA g h1, (hw g h1 h2.lt).trans h2, h3, h4, h5, h5', fun i hi => ?_⟩
    obtain ⟨a, bv, b, c⟩ := h6 i hi
    exact ⟨a, bv, b, c.keep hA hw⟩
theorem OwnL.up {A : Nat → Prop} {w : World} : ∀ {n : Nat} {v : Value}, OwnL A w n v → OwnL A w (n + 1) v
  | 0, _, h => .inl h
  | n + 1, _, .inl h => .inl h
  | n + 1, _, .inr h => by
    obtain ⟨g, len, cap, cur, rfl, h1, h2, h3, h4, h5, h5', h6⟩ := h
    refine .inr ⟨g, len, cap, cur, rfl, h1, h2, h3, h4, h5, h5', fun i hi => ?_⟩
    obtain ⟨a, bv, b, c⟩ := h6 i hi
    exact ⟨a, bv, b, c.up⟩
theorem OwnL.nil (A : Nat → Prop) (w : World) (n : Nat) : OwnL A w n (.slice none 0 0) := by
  cases n with
  | zero => rfl
  | succ n => exact .inl rfl
theorem OwnL.of_owns {A : Nat → Prop} {w : World} {base : Nat} {v : Value} {n k : Nat} {ps : List (LayF × Value)} (h : w.ownsRow base 52 9 v n (layCells ps)) (hA : ∀ b, v.ownBlock = some b → A b) (hm : n ≤ 100000)
    (hf : ∀ i (h2 : i < ps.length), OwnL A w k ps[i].2) : OwnL A w (k + 1) v := by
  have hn : ps.length = n := by have := h.1; rw [layCells_len] at this; omega
  rcases h.2 with ⟨rfl, h0⟩ | ⟨g, cap, cur, rfl, hb, hg, h1, h2, h3, h4⟩
  · exact .inl rfl
  · have at' : ∀ i (hi : i < n) p, p < 9 → cur[i * 9 + p]? = (layA (ps[i]'(by omega)).1 (ps[i]'(by omega)).2)[p]? := fun i hi p hp => by
      rw [← layCells_at ps i (by omega) p hp, ← h4, List.getElem?_take, if_pos (by omega), Array.getElem?_toList]
    refine .inr ⟨g, n, cap, cur, rfl, hA g rfl, hg, h3, h1, h2, hm, fun i hi => ⟨fun p hp => ?_, ps[i].2, ?_, hf i (by omega)⟩⟩
    · rw [at' i hi p (by omega), layA_at _ _ hp]; exact ⟨_, rfl⟩
    · rw [at' i hi 8 (by omega)]; rfl
/-- Layers of new memory. -/
def MyLays (A : Nat → Prop) (w : World) (n : Nat) (v : Value) (L : List Lay) : Prop := LaysAt A w n v L ∧ OwnL A w n v
theorem MyLays.keep {A A' : Nat → Prop} {w w' : World} {n : Nat} {v : Value} {L : List Lay} (h : MyLays A w n v L) (hA : ∀ b, A b → A' b) (hw : ∀ b, A b → b < w.heap.size → w'.heap[b]? = w.heap[b]?) : MyLays A' w' n v L := ⟨h.1.keep hA hw, h.2.keep hA hw⟩
theorem MyLays.mono {A A' : Nat → Prop} {w : World} {n : Nat} {v : Value} {L : List Lay} (h : MyLays A w n v L) (hA : ∀ b, A b → A' b) : MyLays A' w n v L := h.keep hA (fun _ _ _ => rfl)
theorem MyLays.ext {A : Nat → Prop} {w w' : World} {n : Nat} {v : Value} {L : List Lay} (h : MyLays A w n v L) (x : Ext w w') : MyLays A w' n v L := h.keep (fun _ h => h) (fun b _ hb => x.block b hb)
theorem MyLays.nil (A : Nat → Prop) (w : World) (n : Nat) : MyLays A w n (.slice none 0 0) [] := ⟨LaysAt.nil _ _ _ _ _, OwnL.nil _ _ _⟩
theorem MyLays.form {A : Nat → Prop} {w : World} {n : Nat} {v : Value} {L : List Lay} (h : MyLays A w n v L) : ∃ a c, v = .slice a L.length c := h.1.form
theorem MyLays.of_owns {A : Nat → Prop} {w : World} {base : Nat} {v : Value} {n k : Nat} {ps : List (LayF × Value)} {L : List Lay} (h : w.ownsRow base 52 9 v n (layCells ps)) (hA : ∀ b, v.ownBlock = some b → A b)
    (hl : L.length = ps.length) (hm : L.length ≤ 100000) (hf : ∀ i (h1 : i < L.length) (h2 : i < ps.length), L[i].f = ps[i].1 ∧ (∃ a n c, ps[i].2 = .slice a n c) ∧ MyLays A w k ps[i].2 L[i].b) : MyLays A w (k + 1) v L :=
  ⟨LaysAt.of_owns h hA hl (by unfold maxLen; omega) (fun i h1 h2 => ⟨(hf i h1 h2).1, (hf i h1 h2).2.1, (hf i h1 h2).2.2.1⟩), OwnL.of_owns h hA (by have := h.1; rw [layCells_len] at this; omega) (fun i h2 => (hf i (by omega) h2).2.2.2)⟩
/-- Layers that are gathered: an own row, each with its body elsewhere. -/
structure AccAt (base : Nat) (w : World) (e : Nat) (v : Value) (acc : List Lay) : Prop where
  is : ∃ ps : List (LayF × Value), w.ownsRow base 52 9 v acc.length (layCells ps) ∧ acc.length = ps.length ∧ ∀ i (h1 : i < acc.length) (h2 : i < ps.length), acc[i].f = ps[i].1 ∧ (∃ a n c, ps[i].2 = .slice a n c) ∧ MyLays (fun b => base ≤ b ∧ b < w.heap.size ∧ v.ownBlock ≠ some b) w e ps[i].2 acc[i].b
theorem AccAt.nil (base : Nat) (w : World) (e : Nat) : AccAt base w e (.slice none 0 0) [] :=
  ⟨⟨[], World.ownsRow_nil _ _ _ _, rfl, fun i h => by simp at h⟩⟩
theorem AccAt.gb {base : Nat} {w W : World} {e R : Nat} {v : Value} {acc : List Lay} (h : AccAt base w e v acc) (hg : GB w W R) (hR : R < base) : AccAt base W e v acc := by
  obtain ⟨ps, h1, h2, h3⟩ := h.is
  refine ⟨⟨ps, h1.kept hg (.inr (fun e => by have := (h1.lt R e).1; omega)), h2, fun i i1 i2 => ?_⟩⟩
  obtain ⟨a, b, c⟩ := h3 i i1 i2
  exact ⟨a, b, c.keep (fun b hb => ⟨hb.1, Nat.lt_of_lt_of_le hb.2.1 hg.size, hb.2.2⟩) (fun b hb hlt => hg.block b hlt (fun e => by have := Option.some.inj e; omega))⟩
theorem AccAt.ext {base : Nat} {w W : World} {e : Nat} {v : Value} {acc : List Lay} (h : AccAt base w e v acc) (x : Ext w W) : AccAt base W e v acc := by
  obtain ⟨ps, h1, h2, h3⟩ := h.is
  refine ⟨⟨ps, own_old h1 x, h2, fun i i1 i2 => ?_⟩⟩
  obtain ⟨a, b, c⟩ := h3 i i1 i2
  exact ⟨a, b, c.keep (fun b hb => ⟨hb.1, Nat.lt_of_lt_of_le hb.2.1 x.size, hb.2.2⟩) (fun b _ hlt => x.block b hlt)⟩
theorem AccAt.form {base : Nat} {w : World} {e : Nat} {v : Value} {acc : List Lay} (h : AccAt base w e v acc) : ∃ a c, v = .slice a acc.length c := by
  obtain ⟨ps, h1, -, -⟩ := h.is
  rcases h1.2 with ⟨rfl, h0⟩ | ⟨g, cap, _, rfl, _⟩
  · exact ⟨none, 0, by rw [h0]⟩
  · exact ⟨_, _, rfl⟩
theorem AccAt.lays {base : Nat} {w : World} {e : Nat} {v : Value} {acc : List Lay} (h : AccAt base w e v acc) (hm : acc.length ≤ 100000) : MyLays (fun b => base ≤ b ∧ b < w.heap.size) w (e + 1) v acc := by
  obtain ⟨ps, h1, h2, h3⟩ := h.is
  refine MyLays.of_owns h1 (fun b hb => h1.lt b hb) h2 hm (fun i i1 i2 => ?_)
  obtain ⟨a, b, c⟩ := h3 i i1 i2
  exact ⟨a, b, c.mono (fun b hb => ⟨hb.1, hb.2.1⟩)⟩
/-- One layer more. -/
theorem AccAt.snoc {base : Nat} {w W w1 : World} {e n : Nat} {v v' bv : Value} {acc : List Lay} {ps : List (LayF × Value)} {f : LayF} {b : List Lay} (h2 : acc.length = ps.length) (hn : n = acc.length)
    (h3 : ∀ i (h1 : i < acc.length) (h2 : i < ps.length), acc[i].f = ps[i].1 ∧ (∃ a n c, ps[i].2 = .slice a n c) ∧ MyLays (fun b => base ≤ b ∧ b < w.heap.size ∧ v.ownBlock ≠ some b) w e ps[i].2 acc[i].b)
    (hx : Ext w W) (hg : W.grownBy w1 v.ownBlock) (ho : w1.ownsRow base 52 9 v' (n + 1) (layCells ps ++ (layA f bv).toList)) (hb : v'.ownBlock = v.ownBlock ∨ v'.ownBlock = some W.heap.size)
    (hs : ∃ a n c, bv = .slice a n c) (ht : MyLays (fun b => base ≤ b ∧ b < w.heap.size ∧ v.ownBlock ≠ some b) w e bv b) : AccAt base w1 e v' (acc ++ [.mk f b]) := by
  have up : ∀ {u : Value} {L : List Lay}, MyLays (fun b => base ≤ b ∧ b < w.heap.size ∧ v.ownBlock ≠ some b) w e u L → MyLays (fun b => base ≤ b ∧ b < w1.heap.size ∧ v'.ownBlock ≠ some b) w1 e u L := fun hu =>
    hu.keep (fun b hb' => ⟨hb'.1, Nat.lt_of_lt_of_le hb'.2.1 (Nat.le_trans hx.size hg.size), fun e => by
      rcases hb with h | h
      · exact hb'.2.2 (h ▸ e)
      · rw [h] at e
        have := Option.some.inj e
        have := hx.size
        omega⟩) (fun b hb' hlt => (hg.block b (Nat.lt_of_lt_of_le hlt hx.size) (fun e => hb'.2.2 e.symm)).trans (hx.block b hlt))
  refine ⟨⟨ps ++ [(f, bv)], by rw [List.length_append, layCells_snoc, ← hn]; exact ho, by simp [h2], fun i i1 i2 => ?_⟩⟩
  rcases Nat.lt_or_ge i acc.length with hlt | hge
  · obtain ⟨a, b, c⟩ := h3 i hlt (by omega)
    rw [List.getElem_append_left hlt, List.getElem_append_left (by omega)]
    exact ⟨a, b, up c⟩
  · have : i = acc.length := by simp at i1; omega
    subst this
    have e1 : (acc ++ [Lay.mk f b])[acc.length] = Lay.mk f b := by simp
    have e2 : (ps ++ [(f, bv)])[acc.length]'i2 = (f, bv) := by simp [h2]
    rw [e1, e2]
    exact ⟨rfl, hs, up ht⟩
end Go.Proofs.YtgokenbojppnhaaDoor
namespace Go.Proofs.YtgokenbojppnhaaDoor
open Go.RowKit
def endB : Bs := [101, 110, 100]
def lossB : Bs := [108, 111, 115, 115]
def LayF.kind0 (k : Int) : LayF := { LayF.zero with kind := k }
/-- Layers out of lines: those that were read, or none; the line at which reading stands; how many layers there may be yet. -/
def bodyP (LL : List (List Bs)) : Nat → Nat → Nat → Nat → List Lay → Option (List Lay) × Nat × Nat
  | 0, _, i, left, _ => (none, i, left)
  | fu + 1, deep, i, left, acc =>
    match LL[i]? with
    | none => (some acc, i, left)
    | some [] => (none, i, left)
    | some (x :: ws) =>
      if x = endB ∨ x = lossB then (some acc, i, left) else
      if left = 0 then (none, i, left) else
      if x :: ws ≠ [nameB 13] then
        match oneS (x :: ws) with
        | none => (none, i, left - 1)
        | some f => bodyP LL fu deep (i + 1) (left - 1) (acc ++ [.mk f []])
      else if deep = 4 then (none, i, left - 1) else
        match bodyP LL fu (deep + 1) (i + 1) (left - 1) [] with
        | (none, i', left') => (none, i', left')
        | (some b, i', left') => if LL[i']? = some [endB] then bodyP LL fu deep (i' + 1) left' (acc ++ [.mk (LayF.kind0 13) b]) else (none, i', left')
theorem bodyP_at (LL : List (List Bs)) : ∀ (fu deep i left : Nat) (acc : List Lay), i ≤ (bodyP LL fu deep i left acc).2.1 ∧ (bodyP LL fu deep i left acc).2.2 ≤ left ∧ (i ≤ LL.length → (bodyP LL fu deep i left acc).2.1 ≤ LL.length)
  | 0, _, i, left, _ => by simp [bodyP]
  | fu + 1, deep, i, left, acc => by
    unfold bodyP
    split
    · simp
    · simp
    · rename_i x ws hx
      have hi : i < LL.length := (List.getElem?_eq_some_iff.1 hx).1
      split
      · simp
      split
      · simp
      split
      · split
        · simp <;> omega
        · rename_i f hf
          have := bodyP_at LL fu deep (i + 1) (left - 1) (acc ++ [.mk f []])
          omega
      split
      · simp <;> omega
      have a := bodyP_at LL fu (deep + 1) (i + 1) (left - 1) []
      split
      · rename_i i' l' h; rw [h] at a; simp at a ⊢; omega
      · rename_i b' i' l' h
        rw [h] at a
        split
        · rename_i h2
          have hi2 := (List.getElem?_eq_some_iff.1 h2).1
          have := bodyP_at LL fu deep (i' + 1) l' (acc ++ [.mk (LayF.kind0 13) b'])
          simp at a ⊢
          omega
        · simp at a ⊢; omega
/-- Lines of words, in a world: nothing of them lies in block R. -/
def LinesAt (R : Nat) (w : World) (v : Value) (LL : List (List Bs)) : Prop :=
  ∃ a cap, v = .slice a LL.length cap ∧ LL.length ≤ cap ∧ cap ≤ maxLen ∧ (LL ≠ [] → ∃ b o, a = some ⟨b, o, none⟩ ∧ b ≠ R ∧ ∀ i (h : i < LL.length), ∃ a' c', w.cell? ⟨b, o + i, none⟩ = some (.slice a' LL[i].length c') ∧ RowV w (.slice a' LL[i].length c') (strs LL[i]) ∧ (∀ q, a' = some q → q.block ≠ R))
theorem RowV.gb {w W : World} {R : Nat} {v : Value} {vs : List Value} (h : RowV w v vs) (hg : GB w W R) (ho : ∀ q, v.ownBlock = some q → q ≠ R) : RowV W v vs := by
  obtain ⟨a, cap, rfl, h1, h2, h3⟩ := h
  refine ⟨a, cap, rfl, h1, h2, fun hn => ?_⟩
  obtain ⟨b, o, rfl, hc⟩ := h3 hn
  refine ⟨b, o, rfl, fun i hi => ?_⟩
  have e := hc i hi
  rw [List.getElem?_eq_getElem hi] at e ⊢
  exact hg.cell e (ho b rfl)
theorem LinesAt.gb {R : Nat} {w W : World} {v : Value} {LL : List (List Bs)} (h : LinesAt R w v LL) (hg : GB w W R) : LinesAt R W v LL := by
  obtain ⟨a, cap, rfl, h1, h2, h3⟩ := h
  refine ⟨a, cap, rfl, h1, h2, fun hn => ?_⟩
  obtain ⟨b, o, rfl, hb, hc⟩ := h3 hn
  refine ⟨b, o, rfl, hb, fun i hi => ?_⟩
  obtain ⟨a', c', h4, h5, h6⟩ := hc i hi
  exact ⟨a', c', hg.cell h4 hb, h5.gb hg (fun q e => by cases a' with | none => cases e | some q' => cases e; exact h6 _ rfl), h6⟩
theorem GB.grown {w W w1 : World} {R : Nat} {row : Option Nat} (h : GB w W R) (hg : W.grownBy w1 row) (hr : ∀ k, row = some k → w.heap.size ≤ k) : GB w w1 R :=
  ⟨hg.os.trans h.os, hg.tape.trans h.tape, hg.output.trans h.output, Nat.le_trans h.size hg.size, fun i hi hne =>
    (hg.block i (Nat.lt_of_lt_of_le hi h.size) (fun e => by have := hr i e.symm; omega)).trans (h.block i hi hne)⟩
end Go.Proofs.YtgokenbojppnhaaDoor
namespace Go.Proofs.YtgokenbojppnhaaDoor
theorem cutAt_cons_ne {c y : UInt8} {l h : Bs} {t : List Bs} (e : cutAt c l = h :: t) (hy : y ≠ c) : cutAt c (y :: l) = (y :: h) :: t := by
  rw [cutAt_cons, if_neg hy, e]; rfl
theorem cutAt_inj {c : UInt8} : ∀ {a b : Bs}, cutAt c a = cutAt c b → a = b
  | [], [], _ => rfl
  | [], y :: b, h => by
    obtain ⟨p, q, e⟩ := cutAt_some c b
    rw [cutAt_cons] at h
    split at h <;> simp [cutAt, e] at h
  | y :: a, [], h => by
    obtain ⟨p, q, e⟩ := cutAt_some c a
    rw [cutAt_cons] at h
    split at h <;> simp [cutAt, e] at h
  | y :: a, z :: b, h => by
    obtain ⟨p, q, e⟩ := cutAt_some c a
    obtain ⟨p', q', e'⟩ := cutAt_some c b
    rw [cutAt_cons, cutAt_cons] at h
    by_cases h1 : y = c <;> by_cases h2 : z = c
    · rw [if_pos h1, if_pos h2] at h
      rw [h1, h2, cutAt_inj (List.cons.inj h).2]
    · rw [if_pos h1, if_neg h2, e'] at h; simp at h
    · rw [if_neg h1, if_pos h2, e] at h; simp at h
    · rw [if_neg h1, if_neg h2, e, e'] at h
      simp only [List.modifyHead_cons, List.cons.injEq] at h
      obtain ⟨⟨rfl, rfl⟩, rfl⟩ := h
      rw [cutAt_inj (e.trans e'.symm)]
/-- All numbers of words, or none. -/
def allB : List Bs → Option (List Nat)
  | [] => some []
  | x :: xs => match numB x with
    | none => none
    | some n => match allB xs with
      | none => none
      | some l => some (n :: l)
theorem allB_len : ∀ {L : List Bs} {n : List Nat}, allB L = some n → n.length = L.length
  | [], n, h => by simp [allB] at h; subst h; rfl
  | x :: xs, n, h => by
    simp only [allB] at h
    cases h1 : numB x with
    | none => rw [h1] at h; simp at h
    | some m =>
      rw [h1] at h
      cases h2 : allB xs with
      | none => rw [h2] at h; simp at h
      | some l =>
        rw [h2] at h
        simp at h
        subst h
        simp [allB_len h2]
theorem allB_none : ∀ {L : List Bs} {x : Bs}, x ∈ L → numB x = none → allB L = none
  | y :: L, x, h, e => by
    simp only [allB]
    rcases List.mem_cons.1 h with rfl | h
    · rw [e]
    · split
      · rfl
      · rw [allB_none h e]
theorem allB_snoc : ∀ {L : List Bs} {x : Bs} {l : List Nat} {n : Nat}, allB L = some l → numB x = some n → allB (L ++ [x]) = some (l ++ [n])
  | [], x, l, n, h, e => by simp [allB] at h; subst h; simp [allB, e]
  | y :: L, x, l, n, h, e => by
    simp only [allB, List.cons_append] at h ⊢
    cases h1 : numB y with
    | none => rw [h1] at h; simp at h
    | some m =>
      rw [h1] at h
      cases h2 : allB L with
      | none => rw [h2] at h; simp at h
      | some k =>
        rw [h2] at h
        simp at h
        subst h
        rw [allB_snoc h2 e]
        rfl
/-- The page's kinds, in order. -/
def kindR (x : Bs) : Option Nat := [1, 2, 3, 4, 5, 6, 7, 8, 9, 10, 11, 12, 13].find? (fun k => decide (nameB k = x))
theorem kindB_name {x : Bs} {k : Nat} (h : kindB x = some k) : nameB k = x ∧ k ∈ kindsT := by
  have h1 := List.find?_some h
  have h2 := List.mem_of_find?_eq_some h
  exact ⟨by simpa using h1, h2⟩
theorem kindR_eq (x : Bs) : kindR x = match kindB x with
    | some k => some k
    | none => if x = nameB 13 then some 13 else none := by
  cases h : kindB x with
  | some k =>
    obtain ⟨rfl, hk⟩ := kindB_name h
    simp only [kindsT, List.mem_cons, List.not_mem_nil, or_false] at hk
    rcases hk with rfl | rfl | rfl | rfl | rfl | rfl | rfl | rfl | rfl | rfl | rfl | rfl <;> decide
  | none =>
    have hno : ∀ k ∈ kindsT, nameB k ≠ x := fun k hk => by
      have := List.find?_eq_none.1 h k hk
      simpa using this
    by_cases hx : x = nameB 13
    · subst hx; decide
    · rw [if_neg hx]
      refine List.find?_eq_none.2 (fun k hk => ?_)
      simp only [List.mem_cons, List.not_mem_nil, or_false] at hk
      simp only [decide_eq_true_eq]
      rcases hk with rfl | rfl | rfl | rfl | rfl | rfl | rfl | rfl | rfl | rfl | rfl | rfl | rfl
      iterate 12 exact hno _ (by decide)
      exact fun e => hx e.symm
/-- Are a kind's numbers, from the j-th on, within bounds? -/
def fitsFrom (k : Nat) : Nat → List Nat → Bool
  | _, [] => true
  | j, n :: ns => decide (lowK k j ≤ (n : Int) ∧ (n : Int) ≤ highK k) && fitsFrom k (j + 1) ns
theorem fitsFrom_iff {k : Nat} : ∀ {ns : List Nat} {j : Nat}, fitsFrom k j ns = true ↔ ∀ i, (h : i < ns.length) → lowK k (j + i) ≤ (ns[i] : Int) ∧ (ns[i] : Int) ≤ highK k
  | [], j => by simp [fitsFrom]
  | n :: ns, j => by
    rw [fitsFrom, Bool.and_eq_true, fitsFrom_iff, decide_eq_true_eq]
    constructor
    · rintro ⟨h1, h2⟩ i h
      cases i with
      | zero => exact h1
      | succ i => rw [show j + (i + 1) = j + 1 + i by omega]; exact h2 i (by simpa using h)
    · intro h
      exact ⟨h 0 (by simp), fun i hi => by have := h (i + 1) (by simpa using hi); rw [show j + (i + 1) = j + 1 + i by omega] at this; exact this⟩
def fitsK (k : Nat) (ns : List Nat) : Bool := decide (ns.length = (placesK k).length) && fitsFrom k 0 ns
/-- A layer with its numbers. -/
def setAll : LayF → List Nat → List Nat → LayF
  | f, p :: ps, n :: ns => setAll (f.set p n) ps ns
  | f, _, _ => f
theorem numsFrom_all {k : Nat} : ∀ {ws : List Bs} {ps : List Nat} {j : Nat} {f : LayF}, numsFrom k j f ws ps = match allB ws with
    | none => none
    | some ns => if ns.length = ps.length ∧ fitsFrom k j ns = true then some (setAll f ps ns) else none
  | [], [], _, _ => by simp [numsFrom, allB, fitsFrom, setAll]
  | [], _ :: _, _, _ => by simp [numsFrom, allB]
  | x :: ws, [], _, _ => by
    rw [numsFrom_len (by simp)]
    cases h : allB (x :: ws) with
    | none => rfl
    | some ns =>
      have := allB_len h
      cases ns with
      | nil => simp at this
      | cons n ns => simp
  | x :: ws, p :: ps, j, f => by
    simp only [numsFrom, allB]
    cases h1 : numB x with
    | none => rfl
    | some n =>
      simp only
      rw [numsFrom_all]
      cases h2 : allB ws with
      | none => simp
      | some ns =>
        simp only [List.length_cons, fitsFrom, setAll, Bool.and_eq_true, decide_eq_true_eq]
        by_cases h3 : lowK k j ≤ (n : Int) ∧ (n : Int) ≤ highK k
        · rw [if_pos h3]
          by_cases h4 : ns.length = ps.length ∧ fitsFrom k (j + 1) ns = true
          · rw [if_pos h4, if_pos ⟨by omega, h3, h4.2⟩]
          · rw [if_neg h4, if_neg (fun h => h4 ⟨by omega, h.2.2⟩)]
        · rw [if_neg h3, if_neg (fun h => h3 h.2.1)]
/-- A line's layer, as the page reads it. -/
def layerR (s : Bs) : Option LayF := match allB (cutAt 32 s).tail with
  | none => none
  | some ns => match kindR ((cutAt 32 s).headD []) with
    | none => none
    | some k => if fitsK k ns = true then some (setAll (LayF.kind0 k) (placesK k) ns) else none
theorem numB_nil : numB [] = none := by simp [numB]
theorem kindR_nil : kindR [] = none := by decide
theorem oneS_all (x : Bs) (ws : List Bs) : oneS (x :: ws) = match kindB x with
    | none => none
    | some k => match allB ws with
      | none => none
      | some ns => if fitsK k ns = true then some (setAll (LayF.kind0 k) (placesK k) ns) else none := by
  simp only [oneS]
  cases h : kindB x with
  | none => rfl
  | some k =>
    simp only
    rw [numsFrom_all]
    cases allB ws with
    | none => rfl
    | some ns => simp [fitsK, LayF.kind0]
theorem layerR_eq (s : Bs) : layerR s = match wordsS s with
    | [] => none
    | x :: ws => if x :: ws = [nameB 13] then some (LayF.kind0 13) else oneS (x :: ws) := by
  obtain ⟨x, ws, e⟩ := cutAt_some 32 s
  unfold layerR wordsS
  rw [e]
  simp only [List.tail_cons, List.headD_cons]
  by_cases hn : [] ∈ x :: ws
  · rw [if_pos hn]
    rcases List.mem_cons.1 hn with h | h
    · rw [← h, kindR_nil]
      cases allB ws <;> rfl
    · rw [allB_none h numB_nil]
  · rw [if_neg hn]
    simp only
    rw [oneS_all, kindR_eq]
    cases h : kindB x with
    | some k =>
      have hx : ¬ x :: ws = [nameB 13] := fun e => by
        have h1 : x = nameB 13 := (List.cons.inj e).1
        rw [h1, show kindB (nameB 13) = none by decide] at h
        cases h
      rw [if_neg hx]
    | none =>
      simp only
      by_cases h1 : x = nameB 13
      · rw [if_pos h1]
        subst h1
        cases ws with
        | nil => simp [allB, fitsK, fitsFrom, placesK, setAll]
        | cons y ys =>
          rw [if_neg (by simp)]
          cases h2 : allB (y :: ys) with
          | none => rfl
          | some ns => have := allB_len h2; simp only [fitsK, placesK]; rw [if_neg]; simp; intro h3; rw [h3] at this; simp at this
      · rw [if_neg h1, if_neg (fun e => h1 (List.cons.inj e).1)]
        cases allB ws <;> rfl
/-- Layers out of lines, as the page reads them: what was read, or none; the line; how many. -/
def bodyR (ls : List Bs) : Nat → Nat → Nat → Nat → List Lay → Option (List Lay) × Nat × Nat
  | 0, _, i, count, _ => (none, i, count)
  | fu + 1, deep, i, count, acc =>
    match ls[i]? with
    | none => (some acc, i, count)
    | some s => match layerR s with
      | none => (some acc, i, count)
      | some f => if count = 64 ∨ (f.kind = 13 ∧ deep = 4) then (none, i, count) else
        if f.kind = 13 then match bodyR ls fu (deep + 1) (i + 1) (count + 1) [] with
          | (none, i', c') => (none, i', c')
          | (some b, i', c') => if ls[i']? = some endB then bodyR ls fu deep (i' + 1) c' (acc ++ [.mk f b]) else (none, i', c')
        else bodyR ls fu deep (i + 1) (count + 1) (acc ++ [.mk f []])
def xentB : Bs := [120, 101, 110, 116]
def squareB : Bs := [115, 113, 117, 97, 114, 101]
/-- A line that ends nothing. -/
def BadLine (s : Bs) : Prop := (wordsS s).head? ≠ some endB ∧ (wordsS s).head? ≠ some lossB
theorem words_one {s : Bs} {L : List Bs} (h : wordsS s = L) (hL : L ≠ []) : cutAt 32 s = L := by
  unfold wordsS at h
  split at h
  · exact absurd h.symm hL
  · exact h
theorem words_end (s : Bs) : wordsS s = [endB] ↔ s = endB :=
  ⟨fun h => cutAt_inj (c := 32) ((words_one h (by simp)).trans (by decide)), fun h => by subst h; decide⟩
theorem setAll_kind : ∀ {ps : List Nat} {f : LayF} {ns : List Nat}, (∀ p ∈ ps, p ≠ 0) → (setAll f ps ns).kind = f.kind
  | [], f, ns, _ => by simp [setAll]
  | p :: ps, f, [], _ => by simp [setAll]
  | p :: ps, f, n :: ns, h => by
    rw [setAll, setAll_kind (fun q hq => h q (by simp [hq]))]
    have := h p (by simp)
    unfold LayF.set
    split <;> simp_all
theorem oneS_kind {x : Bs} {ws : List Bs} {f : LayF} (h : oneS (x :: ws) = some f) : f.kind ≠ 13 := by
  rw [oneS_all] at h
  cases hk : kindB x with
  | none => rw [hk] at h; simp at h
  | some k =>
    rw [hk] at h
    cases ha : allB ws with
    | none => rw [ha] at h; simp at h
    | some ns =>
      rw [ha] at h
      simp only at h
      split at h
      · cases h
        rw [setAll_kind (fun p hp => by have := (places_ok hp).1; omega)]
        have hm := (kindB_name hk).2
        simp only [LayF.kind0]
        intro e
        have e' : k = 13 := by omega
        subst e'
        exact absurd hm (by decide)
      · simp at h
/-- What the program reads, against what the page reads. -/
def BodyEq (ls : List Bs) (p r : Option (List Lay) × Nat × Nat) : Prop :=
  (∃ L, p.1 = some L ∧ r = (some L, p.2.1, 64 - p.2.2)) ∨ (p.1 = none ∧ r.2.1 = p.2.1 ∧ (r.1 = none ∨ ∃ s, ls[p.2.1]? = some s ∧ BadLine s))
theorem body_eq (ls : List Bs) : ∀ (fu deep i left : Nat) (acc : List Lay), left ≤ 64 → ls.length - i + 1 ≤ fu → BodyEq ls (bodyP (ls.map wordsS) fu deep i left acc) (bodyR ls fu deep i (64 - left) acc)
  | 0, _, i, left, _, _, h => by omega
  | fu + 1, deep, i, left, acc, hl, hfu => by
    rw [bodyP, bodyR, List.getElem?_map]
    cases hs : ls[i]? with
    | none => exact .inl ⟨acc, rfl, rfl⟩
    | some s =>
      have hi : i < ls.length := (List.getElem?_eq_some_iff.1 hs).1
      simp only [Option.map_some]
      rw [layerR_eq]
      cases hw : wordsS s with
      | nil => exact .inr ⟨rfl, rfl, .inr ⟨s, hs, by simp [BadLine, hw]⟩⟩
      | cons x ws =>
        simp only
        by_cases hx : x = endB ∨ x = lossB
        · rw [if_pos hx]
          have h1 : ¬ x :: ws = [nameB 13] := fun e => by
            have h1 : x = nameB 13 := (List.cons.inj e).1
            rw [h1] at hx
            exact absurd hx (by decide)
          have h2 : oneS (x :: ws) = none := by
            rw [oneS_all]
            have : kindB x = none := by rcases hx with rfl | rfl <;> decide
            rw [this]
          rw [if_neg h1, h2]
          exact .inl ⟨acc, rfl, rfl⟩
        · rw [if_neg hx]
          have hbad : BadLine s := by
            unfold BadLine
            rw [hw]
            simp only [List.head?_cons, ne_eq, Option.some.injEq]
            exact ⟨fun h => hx (.inl h), fun h => hx (.inr h)⟩
          by_cases h0 : left = 0
          · rw [if_pos h0]
            subst h0
            split
            · exact .inr ⟨rfl, rfl, .inr ⟨s, hs, hbad⟩⟩
            · rw [if_pos (.inl rfl)]; exact .inr ⟨rfl, rfl, .inl rfl⟩
          · rw [if_neg h0]
            have e1 : 64 - left + 1 = 64 - (left - 1) := by omega
            by_cases hr : x :: ws = [nameB 13]
            · rw [if_neg (by simpa using hr), if_pos hr]
              simp only
              have hk : (LayF.kind0 13).kind = 13 := rfl
              by_cases hd : deep = 4
              · rw [if_pos hd, if_pos (.inr ⟨hk, hd⟩)]
                exact .inr ⟨rfl, rfl, .inl rfl⟩
              · rw [if_neg hd, if_neg (by simp only [hk, true_and]; omega), if_pos hk, e1]
                have ih := body_eq ls fu (deep + 1) (i + 1) (left - 1) [] (by omega) (by omega)
                have hat := bodyP_at (ls.map wordsS) fu (deep + 1) (i + 1) (left - 1) []
                obtain ⟨⟨o, i', l'⟩, hp⟩ : ∃ p, bodyP (ls.map wordsS) fu (deep + 1) (i + 1) (left - 1) [] = p := ⟨_, rfl⟩
                obtain ⟨⟨o2, i2, c2⟩, hq⟩ : ∃ p, bodyR ls fu (deep + 1) (i + 1) (64 - (left - 1)) [] = p := ⟨_, rfl⟩
                rw [hp, hq] at ih
                rw [hp] at hat
                rw [hp, hq]
                rcases ih with ⟨L, h1, h2⟩ | ⟨h1, h2, h3⟩
                · simp only at h1 h2
                  subst h1
                  cases h2
                  simp only at hat
                  simp only [List.getElem?_map]
                  by_cases he : ls[i']? = some endB
                  · rw [if_pos (by rw [he]; simp only [Option.map_some]; rw [(words_end endB).2 rfl]), if_pos he]
                    exact body_eq ls fu deep (i' + 1) l' _ (by omega) (by omega)
                  · rw [if_neg, if_neg he]
                    · exact .inr ⟨rfl, rfl, .inl rfl⟩
                    · intro h
                      cases h5 : ls[i']? with
                      | none => rw [h5] at h; simp at h
                      | some s' =>
                        rw [h5] at h
                        simp only [Option.map_some, Option.some.injEq] at h
                        exact he (by rw [h5, (words_end s').1 h])
                · simp only at h1 h2
                  subst h1
                  subst h2
                  simp only
                  rcases h3 with h3 | ⟨s', h4, h5⟩
                  · simp only at h3
                    subst h3
                    exact .inr ⟨rfl, rfl, .inl rfl⟩
                  · cases o2 with
                    | none => exact .inr ⟨rfl, rfl, .inl rfl⟩
                    | some L =>
                      simp only at h4 ⊢
                      rw [if_neg]
                      · exact .inr ⟨rfl, rfl, .inl rfl⟩
                      · intro h
                        rw [h4] at h
                        cases h
                        exact h5.1 (by rw [(words_end endB).2 rfl]; rfl)
            · rw [if_pos (by simpa using hr), if_neg hr]
              cases ho : oneS (x :: ws) with
              | none => exact .inr ⟨rfl, rfl, .inr ⟨s, hs, hbad⟩⟩
              | some f =>
                have hk := oneS_kind ho
                simp only
                rw [if_neg (by omega), if_neg hk, e1]
                exact body_eq ls fu deep (i + 1) (left - 1) _ (by omega) (by omega)
/-- A definition. -/
structure DefL where
  input : List Int
  layers : List Lay
  loss : Int
def inputB : Bs := [105, 110, 112, 117, 116]
def lossK (W : List Bs) : Int := if W = [lossB, xentB] then 1 else if W = [lossB, squareB] then 2 else 0
/-- Words' numbers, each from 1 to 4096. -/
def dimsB : List Bs → Option (List Nat)
  | [] => some []
  | x :: xs => match numB x with
    | none => none
    | some n => if 1 ≤ n ∧ n ≤ 4096 then match dimsB xs with
        | none => none
        | some l => some (n :: l)
      else none
/-- What a text says, as the program reads it: a definition, or none; the line. -/
def parseP (LL : List (List Bs)) (rest : Bs) : Option DefL × Nat :=
  match LL[0]? with
  | none => (none, 0)
  | some W => if W.length < 2 ∨ 4 < W.length ∨ W.head? ≠ some inputB then (none, 0) else
    match dimsB W.tail with
    | none => (none, 0)
    | some ns => match bodyP LL (LL.length + 1) 0 1 64 [] with
      | (none, i, _) => (none, i)
      | (some L, i, _) => match LL[i]? with
        | none => (none, i)
        | some W' => if lossK W' = 0 then (none, i) else if i + 1 < LL.length then (none, i + 1) else if rest ≠ [] then (none, LL.length) else (some ⟨ns.map (fun (n : Nat) => (n : Int)), L, lossK W'⟩, 0)
def lossS (s : Bs) : Int := if s = lossB ++ 32 :: xentB then 1 else if s = lossB ++ 32 :: squareB then 2 else 0
/-- As the page reads it. -/
def parseR (ls : List Bs) (rest : Bs) : Option DefL × Nat :=
  match ls[0]? with
  | none => (none, 0)
  | some s => match allB (cutAt 32 s).tail with
    | none => (none, 0)
    | some ns => if (cutAt 32 s).headD [] ≠ inputB ∨ ns.length < 1 ∨ 3 < ns.length then (none, 0) else
      if ns.all (fun n => decide (1 ≤ n ∧ n ≤ 4096)) = false then (none, 0) else
      match bodyR ls (ls.length + 1) 0 1 0 [] with
      | (none, i, _) => (none, i)
      | (some L, i, _) => match ls[i]? with
        | none => (none, i)
        | some s' => if lossS s' = 0 then (none, i) else if i + 1 ≠ ls.length ∨ rest ≠ [] then (none, i + 1) else (some ⟨ns.map (fun (n : Nat) => (n : Int)), L, lossS s'⟩, 0)
theorem dims_all : ∀ (L : List Bs), dimsB L = match allB L with
    | none => none
    | some ns => if ns.all (fun n => decide (1 ≤ n ∧ n ≤ 4096)) = true then some ns else none
  | [] => by simp [dimsB, allB]
  | x :: xs => by
    simp only [dimsB, allB]
    cases h : numB x with
    | none => rfl
    | some n =>
      simp only
      rw [dims_all xs]
      cases h2 : allB xs with
      | none => simp
      | some ns =>
        simp only [List.all_cons, Bool.and_eq_true, decide_eq_true_eq]
        by_cases h3 : 1 ≤ n ∧ n ≤ 4096
        · rw [if_pos h3]
          by_cases h4 : ns.all (fun n => decide (1 ≤ n ∧ n ≤ 4096)) = true
          · rw [if_pos h4, if_pos ⟨h3, h4⟩]
          · rw [if_neg h4, if_neg (fun h => h4 h.2)]
        · rw [if_neg h3, if_neg (fun h => h3 h.1)]
theorem lossS_eq (s : Bs) : lossS s = lossK (wordsS s) := by
  have a : wordsS (lossB ++ 32 :: xentB) = [lossB, xentB] := by decide
  have b : wordsS (lossB ++ 32 :: squareB) = [lossB, squareB] := by decide
  have a' : wordsS s = [lossB, xentB] ↔ s = lossB ++ 32 :: xentB := ⟨fun h => cutAt_inj (c := 32) ((words_one h (by simp)).trans (words_one a (by simp)).symm), fun h => by rw [h, a]⟩
  have b' : wordsS s = [lossB, squareB] ↔ s = lossB ++ 32 :: squareB := ⟨fun h => cutAt_inj (c := 32) ((words_one h (by simp)).trans (words_one b (by simp)).symm), fun h => by rw [h, b]⟩
  unfold lossS lossK
  simp only [a', b']
theorem bad_loss {s : Bs} (h : BadLine s) : lossS s = 0 := by
  rw [lossS_eq]
  unfold lossK
  rw [if_neg, if_neg]
  · intro e; exact h.2 (by rw [e]; rfl)
  · intro e; exact h.2 (by rw [e]; rfl)
theorem parse_eq (ls : List Bs) (rest : Bs) : parseR ls rest = parseP (ls.map wordsS) rest := by
  unfold parseR parseP
  rw [List.getElem?_map, List.length_map]
  cases hs : ls[0]? with
  | none => rfl
  | some s =>
    simp only [Option.map_some]
    obtain ⟨x, ws, e⟩ := cutAt_some 32 s
    have ew : wordsS s = if [] ∈ x :: ws then [] else x :: ws := by unfold wordsS; rw [e]
    rw [show (cutAt 32 s).tail = ws by rw [e]; rfl, show (cutAt 32 s).headD [] = x by rw [e]; rfl, ew]
    by_cases hn : [] ∈ x :: ws
    · rw [if_pos hn, if_pos (.inl (by simp))]
      rcases List.mem_cons.1 hn with h | h
      · cases allB ws with
        | none => rfl
        | some ns => simp only; rw [if_pos (.inl (by rw [← h]; decide))]
      · rw [allB_none h numB_nil]
    · rw [if_neg hn]
      simp only [List.tail_cons]
      rw [dims_all]
      cases ha : allB ws with
      | none => simp
      | some ns =>
        have hl := allB_len ha
        simp only
        by_cases hc : x ≠ inputB ∨ ns.length < 1 ∨ 3 < ns.length
        · rw [if_pos hc, if_pos]
          rcases hc with hc | hc | hc
          · exact .inr (.inr (by simpa using hc))
          · exact .inl (by simp; omega)
          · exact .inr (.inl (by simp; omega))
        · rw [if_neg hc]
          rw [if_neg (show ¬ ((x :: ws).length < 2 ∨ 4 < (x :: ws).length ∨ (x :: ws).head? ≠ some inputB) by
            intro h
            simp only [List.length_cons, List.head?_cons, ne_eq, Option.some.injEq] at h
            apply hc
            rcases h with h | h | h
            · exact .inr (.inl (by omega))
            · exact .inr (.inr (by omega))
            · exact .inl h)]
          · by_cases hb : ns.all (fun n => decide (1 ≤ n ∧ n ≤ 4096)) = true
            · rw [if_neg (by rw [hb]; simp), if_pos hb]
              simp only
              have q := body_eq ls (ls.length + 1) 0 1 64 [] (by omega) (by omega)
              have hat := bodyP_at (ls.map wordsS) (ls.length + 1) 0 1 64 []
              rw [Nat.sub_self] at q
              obtain ⟨⟨o, i', l'⟩, hp⟩ : ∃ p, bodyP (ls.map wordsS) (ls.length + 1) 0 1 64 [] = p := ⟨_, rfl⟩
              obtain ⟨⟨o2, i2, c2⟩, hq⟩ : ∃ p, bodyR ls (ls.length + 1) 0 1 0 [] = p := ⟨_, rfl⟩
              rw [hp, hq] at q
              rw [hp, hq]
              rw [hp] at hat
              rcases q with ⟨L, h1, h2⟩ | ⟨h1, h2, h3⟩
              · simp only at h1 h2
                subst h1
                cases h2
                simp only [List.getElem?_map]
                cases h5 : ls[i']? with
                | none => rfl
                | some s' =>
                  have hi := (List.getElem?_eq_some_iff.1 h5).1
                  simp only [Option.map_some]
                  rw [lossS_eq]
                  by_cases h6 : lossK (wordsS s') = 0
                  · rw [if_pos h6, if_pos h6]
                  · rw [if_neg h6, if_neg h6]
                    by_cases h7 : i' + 1 < ls.length
                    · rw [if_pos (.inl (by omega)), if_pos h7]
                    · rw [if_neg h7]
                      have h8 : i' + 1 = ls.length := by omega
                      by_cases h9 : rest ≠ []
                      · rw [if_pos (.inr h9), if_pos h9, h8]
                      · rw [if_neg h9, if_neg (fun h => by rcases h with h | h; exact h h8; exact h9 h)]
              · simp only at h1 h2
                subst h1
                subst h2
                simp only
                cases o2 with
                | none => rfl
                | some L =>
                  rcases h3 with h3 | ⟨s', h4, h5⟩
                  · simp at h3
                  · simp only at h4 ⊢
                    rw [h4]
                    simp only
                    rw [if_pos (bad_loss h5)]
            · rw [if_pos (by simpa using hb), if_neg hb]
end Go.Proofs.YtgokenbojppnhaaDoor
namespace Go.Proofs.YtgokenbojppnhaaDoor
/-- A number behind a blank. -/
def numT (x : Int) : Bs := 32 :: Lib.itoa x
def numsT (l : List Int) : Bs := l.flatMap numT
/-- A line of a layer, no residual. -/
def lineT (k : Nat) (f : LayF) : Bs := nameB k ++ numsT ((placesK k).map f.at) ++ [10]
/-- The kind of a number, no residual. -/
def kindT (x : Int) : Option Nat := kindsT.find? (fun k => decide ((k : Int) = x))
mutual
def Lay.text : Lay → Bs
  | .mk f b => if f.kind = 13 then nameB 13 ++ [10] ++ textS b ++ endB ++ [10] else match kindT f.kind with
    | some k => lineT k f
    | none => []
def textS : List Lay → Bs
  | [] => []
  | l :: ls => l.text ++ textS ls
end
/-- A layer's numbers. -/
def nsOf (k : Nat) (f : LayF) : List Nat := (placesK k).map (fun p => (f.at p).toNat)
def okF (k : Nat) (f : LayF) : Bool := fitsK k (nsOf k f) && decide (f = setAll (LayF.kind0 k) (placesK k) (nsOf k f))
mutual
/-- How many layers there may be yet behind this one; none: it may not be. -/
def Lay.good (deep : Nat) (left : Nat) : Lay → Option Nat
  | .mk f b => if left = 0 then none else
    if f.kind = 13 then (if deep < 4 ∧ f = LayF.kind0 13 then goodS (deep + 1) (left - 1) b else none) else match kindT f.kind with
      | some k => if okF k f = true ∧ b.isEmpty = true then some (left - 1) else none
      | none => none
def goodS (deep : Nat) (left : Nat) : List Lay → Option Nat
  | [] => some left
  | l :: ls => match l.good deep left with
    | none => none
    | some left' => goodS deep left' ls
end
theorem textS_append : ∀ (a b : List Lay), textS (a ++ b) = textS a ++ textS b
  | [], b => by simp [textS]
  | l :: a, b => by simp [textS, textS_append a b]
theorem goodS_append : ∀ (a b : List Lay) (deep left : Nat), goodS deep left (a ++ b) = match goodS deep left a with
    | none => none
    | some l' => goodS deep l' b
  | [], b, deep, left => by simp [goodS]
  | l :: a, b, deep, left => by
    simp only [List.cons_append, goodS]
    cases l.good deep left with
    | none => rfl
    | some l' => exact goodS_append a b deep l'
/-- Digits and their number. -/
theorem dig_of {b : UInt8} (h : digB b = true) : 48 ≤ b.toNat ∧ b.toNat ≤ 57 ∧ UInt8.ofNat (48 + (b.toNat - 48)) = b := by
  simp only [digB, Bool.and_eq_true, decide_eq_true_eq] at h
  refine ⟨h.1, h.2, ?_⟩
  rw [show 48 + (b.toNat - 48) = b.toNat by omega]
  exact UInt8.ofNat_toNat
theorem snoc_ind {motive : Bs → Prop} (nil : motive []) (snoc : ∀ q b, motive q → motive (q ++ [b])) (s : Bs) : motive s := by
  have h : ∀ r : Bs, motive r.reverse := fun r => by
    induction r with
    | nil => exact nil
    | cons b r ih => rw [List.reverse_cons]; exact snoc _ _ ih
  have := h s.reverse
  rwa [List.reverse_reverse] at this
theorem head_app {q : Bs} {b : UInt8} (hq : q ≠ []) : (q ++ [b]).head? = q.head? := by
  cases q with
  | nil => exact absurd rfl hq
  | cons x q => rfl
theorem valB_pos : ∀ {s : Bs}, s ≠ [] → s.head? ≠ some 48 → (∀ b ∈ s, digB b = true) → 1 ≤ valB s := by
  intro s
  induction s using snoc_ind with
  | nil => intro h; exact absurd rfl h
  | snoc q b ih =>
    intro _ hh hd
    rw [valB_snoc]
    by_cases hq : q = []
    · subst hq
      have h1 := dig_of (hd b (by simp))
      have : b.toNat ≠ 48 := fun e => hh (by simp; exact UInt8.toNat_inj.1 e)
      omega
    · have := ih hq (by rw [head_app hq] at hh; exact hh) (fun c hc => hd c (by simp [hc]))
      omega
theorem dec_val : ∀ {s : Bs}, s ≠ [] → (s.head? ≠ some 48 ∨ s.length = 1) → (∀ b ∈ s, digB b = true) → Lib.decDigits (valB s) = s := by
  intro s
  induction s using snoc_ind with
  | nil => intro h; exact absurd rfl h
  | snoc q b ih =>
    intro _ hh hd
    have h1 := dig_of (hd b (by simp))
    rw [valB_snoc]
    by_cases hq : q = []
    · subst hq
      rw [Lib.decDigits, dif_pos (by simp [valB]; omega)]
      simp [valB, h1.2.2]
    · have hq1 : q.head? ≠ some 48 := by
        rcases hh with h | h
        · rw [head_app hq] at h; exact h
        · have h2 := List.length_pos_iff.2 hq; rw [List.length_append, List.length_singleton] at h; omega
      have hqd : ∀ c ∈ q, digB c = true := fun c hc => hd c (by simp [hc])
      have hp := valB_pos hq hq1 hqd
      rw [Lib.decDigits, dif_neg (by omega), show (10 * valB q + (b.toNat - 48)) / 10 = valB q by omega, ih hq (.inl hq1) hqd, show (10 * valB q + (b.toNat - 48)) % 10 = b.toNat - 48 by omega, h1.2.2]
theorem itoa_nat (n : Nat) : Lib.itoa (n : Int) = Lib.decDigits n := by
  unfold Lib.itoa
  rw [if_neg (by omega)]
  rfl
theorem numB_dec {x : Bs} {n : Nat} (h : numB x = some n) : Lib.itoa (n : Int) = x := by
  unfold numB at h
  split at h
  · cases h
  · rename_i hc
    split at h
    · rename_i hd
      cases h
      rw [itoa_nat]
      refine dec_val (fun e => hc (.inl e)) ?_ (fun b hb => List.all_eq_true.1 hd b hb)
      by_cases h1 : x.length = 1
      · exact .inr h1
      · refine .inl (fun e => hc (.inr (.inr ⟨e, ?_⟩)))
        have : x ≠ [] := fun e => hc (.inl e)
        have := List.length_pos_iff.2 this
        omega
    · cases h
theorem allB_nums : ∀ {ws : List Bs} {ns : List Nat}, allB ws = some ns → ws.flatMap (32 :: ·) = numsT (ns.map (fun (n : Nat) => (n : Int)))
  | [], ns, h => by simp [allB] at h; subst h; rfl
  | x :: ws, ns, h => by
    simp only [allB] at h
    cases h1 : numB x with
    | none => rw [h1] at h; cases h
    | some n =>
      rw [h1] at h
      cases h2 : allB ws with
      | none => rw [h2] at h; cases h
      | some l =>
        rw [h2] at h
        cases h
        simp only [List.flatMap_cons, List.map_cons, numsT, numT, numB_dec h1]
        rw [allB_nums h2]
        rfl
/-- Pieces, joined again. -/
theorem cut_join (c : UInt8) : ∀ {s x : Bs} {ws : List Bs}, cutAt c s = x :: ws → s = x ++ ws.flatMap (c :: ·)
  | [], x, ws, h => by simp [cutAt] at h; obtain ⟨rfl, rfl⟩ := h; rfl
  | y :: s, x, ws, h => by
    rw [cutAt_cons] at h
    obtain ⟨a, q, e⟩ := cutAt_some c s
    have ih := cut_join c e
    split at h
    · rename_i hy
      obtain ⟨rfl, rfl⟩ := List.cons.inj h
      rw [e, hy, ih]
      simp
    · rw [e] at h
      simp only [List.modifyHead_cons, List.cons.injEq] at h
      obtain ⟨rfl, rfl⟩ := h
      rw [ih]
      simp
/-- Lines, each ended. -/
def joinL (ls : List Bs) : Bs := ls.flatMap (· ++ [10])
theorem cut_lines : ∀ (c : UInt8) (b : Bs), b = (cutAt c b).dropLast.flatMap (· ++ [c]) ++ (cutAt c b).getLastD [] := by
  intro c b
  obtain ⟨x, ws, e⟩ := cutAt_some c b
  have h := cut_join c e
  rw [e]
  have key : ∀ (x : Bs) (ws : List Bs), x ++ ws.flatMap (c :: ·) = (x :: ws).dropLast.flatMap (· ++ [c]) ++ (x :: ws).getLastD [] := by
    intro x ws
    induction ws generalizing x with
    | nil => simp
    | cons y ws ih => simp only [List.flatMap_cons, List.dropLast_cons_cons, List.append_assoc]; rw [show (x :: y :: ws).getLastD [] = (y :: ws).getLastD [] by simp [List.getLastD]]; rw [← ih y]; simp
  rw [← key x ws]
  exact h
theorem set_nums {k : Nat} (hk : k ≤ 12) {ns : List Nat} (h : ns.length = (placesK k).length) :
    (placesK k).map (setAll (LayF.kind0 k) (placesK k) ns).at = ns.map (fun (n : Nat) => (n : Int)) := by
  have hh : k = 0 ∨ k = 1 ∨ k = 2 ∨ k = 3 ∨ k = 4 ∨ k = 5 ∨ k = 6 ∨ k = 7 ∨ k = 8 ∨ k = 9 ∨ k = 10 ∨ k = 11 ∨ k = 12 := by omega
  rcases hh with rfl | rfl | rfl | rfl | rfl | rfl | rfl | rfl | rfl | rfl | rfl | rfl | rfl
  all_goals first
    | (match ns, h with | [], _ => rfl)
    | (match ns, h with | [_], _ => rfl)
    | (match ns, h with | [_, _], _ => rfl)
    | (match ns, h with | [_, _, _, _, _], _ => rfl)
theorem kindT_of {k : Nat} (h : k ∈ kindsT) : kindT (k : Int) = some k ∧ k ≤ 12 ∧ (k : Int) ≠ 13 := by
  simp only [kindsT, List.mem_cons, List.not_mem_nil, or_false] at h
  rcases h with rfl | rfl | rfl | rfl | rfl | rfl | rfl | rfl | rfl | rfl | rfl | rfl <;> decide
/-- A line that is read as a layer is the layer's line. -/
theorem one_text {s x : Bs} {ws : List Bs} {f : LayF} (hs : wordsS s = x :: ws) (h : oneS (x :: ws) = some f) : ∃ k, kindT f.kind = some k ∧ f.kind ≠ 13 ∧ s ++ [10] = lineT k f ∧ okF k f = true := by
  have hc := cut_join 32 (words_one hs (by simp))
  rw [oneS_all] at h
  cases hk : kindB x with
  | none => rw [hk] at h; cases h
  | some k =>
    rw [hk] at h
    cases ha : allB ws with
    | none => rw [ha] at h; cases h
    | some ns =>
      rw [ha] at h
      simp only at h
      split at h
      · rename_i hf
        cases h
        obtain ⟨hn, hm⟩ := kindB_name hk
        obtain ⟨k1, k2, k3⟩ := kindT_of hm
        have hl : ns.length = (placesK k).length := by unfold fitsK at hf; simp at hf; exact hf.1
        have hkind : (setAll (LayF.kind0 k) (placesK k) ns).kind = (k : Int) := setAll_kind (fun p hp => by have := (places_ok hp).1; omega)
        have hnums := set_nums k2 hl
        have hns : nsOf k (setAll (LayF.kind0 k) (placesK k) ns) = ns := by
          unfold nsOf
          have := congrArg (List.map Int.toNat) hnums
          simpa [List.map_map, Function.comp_def] using this
        refine ⟨k, by rw [hkind]; exact k1, by rw [hkind]; exact k3, ?_, ?_⟩
        · unfold lineT
          rw [hnums, hc, allB_nums ha, hn]
        · unfold okF
          rw [hns, hf]
          simp
      · cases h
theorem seg_app {α : Type} (l : List α) {i j k : Nat} (h1 : i ≤ j) (h2 : j ≤ k) : (l.drop i).take (k - i) = (l.drop i).take (j - i) ++ (l.drop j).take (k - j) := by
  have e : k - i = (j - i) + (k - j) := by omega
  rw [e, List.take_add, List.drop_drop, show i + (j - i) = j by omega]
theorem seg_one {α : Type} {l : List α} {i : Nat} {x : α} (h : l[i]? = some x) : (l.drop i).take (i + 1 - i) = [x] := by
  obtain ⟨hi, rfl⟩ := List.getElem?_eq_some_iff.1 h
  rw [show i + 1 - i = 1 by omega, List.drop_eq_getElem_cons hi]
  rfl
theorem joinL_app (a b : List Bs) : joinL (a ++ b) = joinL a ++ joinL b := by simp [joinL]
theorem joinL_one (s : Bs) : joinL [s] = s ++ [10] := by simp [joinL]
/-- Layers that are read are told as the lines stood, and may be. -/
theorem body_text (ls : List Bs) : ∀ (fu deep i left : Nat) (acc L : List Lay) (i' l' : Nat), bodyP (ls.map wordsS) fu deep i left acc = (some L, i', l') → deep ≤ 4 → i ≤ ls.length →
    ∃ M, L = acc ++ M ∧ i ≤ i' ∧ i' ≤ ls.length ∧ joinL ((ls.drop i).take (i' - i)) = textS M ∧ goodS deep left M = some l'
  | 0, _, _, _, _, _, _, _, h, _, _ => by simp [bodyP] at h
  | fu + 1, deep, i, left, acc, L, i', l', h, hd, hi => by
    rw [bodyP, List.getElem?_map] at h
    cases hs : ls[i]? with
    | none =>
      rw [hs] at h
      simp only [Option.map_none, Prod.mk.injEq, Option.some.injEq] at h
      obtain ⟨rfl, rfl, rfl⟩ := h
      exact ⟨[], by simp, Nat.le_refl _, hi, by simp [joinL, textS], rfl⟩
    | some s =>
      rw [hs] at h
      simp only [Option.map_some] at h
      have hlt := (List.getElem?_eq_some_iff.1 hs).1
      have hone := seg_one hs
      cases hw : wordsS s with
      | nil => rw [hw] at h; simp at h
      | cons x ws =>
        rw [hw] at h
        simp only at h
        split at h
        · simp only [Prod.mk.injEq, Option.some.injEq] at h
          obtain ⟨rfl, rfl, rfl⟩ := h
          exact ⟨[], by simp, Nat.le_refl _, hi, by simp [joinL, textS], rfl⟩
        split at h
        · simp at h
        rename_i hleft
        split at h
        · cases ho : oneS (x :: ws) with
          | none => rw [ho] at h; simp at h
          | some f =>
            rw [ho] at h
            simp only at h
            obtain ⟨M, h1, h2, h3, h4, h5⟩ := body_text ls fu deep (i + 1) (left - 1) _ _ _ _ h hd hlt
            obtain ⟨k, k1, k2, k3, k4⟩ := one_text hw ho
            refine ⟨.mk f [] :: M, by rw [h1]; simp, by omega, h3, ?_, ?_⟩
            · rw [seg_app ls (Nat.le_succ i) h2, hone, joinL_app, joinL_one, h4, k3, textS, Lay.text, if_neg k2, k1]
            · rw [goodS, Lay.good, if_neg hleft, if_neg k2, k1]
              simp only
              rw [if_pos ⟨k4, rfl⟩]
              exact h5
        · rename_i hres
          split at h
          · simp at h
          rename_i hd4
          have hres' : x :: ws = [nameB 13] := Classical.not_not.1 hres
          obtain ⟨⟨ro, i1, l1⟩, hp⟩ : ∃ p, bodyP (ls.map wordsS) fu (deep + 1) (i + 1) (left - 1) [] = p := ⟨_, rfl⟩
          rw [hp] at h
          cases ro with
          | none => simp at h
          | some b =>
            simp only at h
            split at h
            · rename_i he
              obtain ⟨M1, a1, a2, a3, a4, a5⟩ := body_text ls fu (deep + 1) (i + 1) (left - 1) _ _ _ _ hp (by omega) hlt
              simp only [List.nil_append] at a1
              subst a1
              rw [List.getElem?_map] at he
              cases hs1 : ls[i1]? with
              | none => rw [hs1] at he; cases he
              | some s1 =>
                rw [hs1] at he
                simp only [Option.map_some, Option.some.injEq] at he
                have e1 := (words_end s1).1 he
                have hlt1 := (List.getElem?_eq_some_iff.1 hs1).1
                obtain ⟨M, h1, h2, h3, h4, h5⟩ := body_text ls fu deep (i1 + 1) l1 _ _ _ _ h hd hlt1
                have e0 : s = nameB 13 := by
                  have := cut_join 32 (words_one hw (by simp))
                  obtain ⟨rfl, rfl⟩ := List.cons.inj hres'
                  simpa using this
                refine ⟨.mk (LayF.kind0 13) b :: M, by rw [h1]; simp, by omega, h3, ?_, ?_⟩
                · rw [seg_app ls (Nat.le_succ i) (show i + 1 ≤ i' by omega), seg_app ls a2 (show i1 ≤ i' by omega), seg_app ls (Nat.le_succ i1) h2, hone, seg_one hs1]
                  simp only [joinL_app, joinL_one]
                  rw [a4, h4, textS, Lay.text, if_pos (show (LayF.kind0 13).kind = 13 from rfl), e0, e1]
                  simp
                · rw [goodS, Lay.good, if_neg hleft, if_pos (show (LayF.kind0 13).kind = 13 from rfl), if_pos (show deep < 4 ∧ LayF.kind0 13 = LayF.kind0 13 from ⟨by omega, rfl⟩), a5]
                  exact h5
            · simp at h
/-- A definition's text. -/
def printS (d : DefL) : Bs := inputB ++ numsT d.input ++ [10] ++ textS d.layers ++ lossB ++ [32] ++ (if d.loss = 1 then xentB else squareB) ++ [10]
def goodD (d : DefL) : Bool := decide (1 ≤ d.input.length ∧ d.input.length ≤ 3) && decide (d.loss = 1 ∨ d.loss = 2) && d.input.all (fun x => decide (1 ≤ x ∧ x ≤ 4096)) && (goodS 0 64 d.layers).isSome
theorem parseP_text {ls : List Bs} {rest : Bs} {d : DefL} {n : Nat} (h : parseP (ls.map wordsS) rest = (some d, n)) : rest = [] ∧ goodD d = true ∧ printS d = joinL ls := by
  unfold parseP at h
  rw [List.getElem?_map, List.length_map] at h
  cases hs : ls[0]? with
  | none => rw [hs] at h; simp at h
  | some s =>
    rw [hs] at h
    simp only [Option.map_some] at h
    split at h
    · simp at h
    rename_i hW
    cases hd : dimsB (wordsS s).tail with
    | none => rw [hd] at h; simp at h
    | some ns =>
      rw [hd] at h
      simp only at h
      obtain ⟨⟨ro, i1, l1⟩, hp⟩ : ∃ p, bodyP (ls.map wordsS) (ls.length + 1) 0 1 64 [] = p := ⟨_, rfl⟩
      rw [hp] at h
      cases ro with
      | none => simp at h
      | some L =>
        simp only [List.getElem?_map] at h
        have hlt := (List.getElem?_eq_some_iff.1 hs).1
        obtain ⟨M, a1, a2, a3, a4, a5⟩ := body_text ls _ 0 1 64 _ _ _ _ hp (by omega) hlt
        simp only [List.nil_append] at a1
        subst a1
        cases hs1 : ls[i1]? with
        | none => rw [hs1] at h; simp at h
        | some s1 =>
          rw [hs1] at h
          simp only [Option.map_some] at h
          split at h
          · simp at h
          rename_i hl
          split at h
          · simp at h
          rename_i hi
          split at h
          · simp at h
          rename_i hr
          simp only [Prod.mk.injEq, Option.some.injEq] at h
          obtain ⟨rfl, -⟩ := h
          have hlt1 := (List.getElem?_eq_some_iff.1 hs1).1
          have hlen : i1 + 1 = ls.length := by omega
          have hdim := dims_all (wordsS s).tail
          rw [hd] at hdim
          cases ha : allB (wordsS s).tail with
          | none => rw [ha] at hdim; cases hdim
          | some ms =>
            rw [ha] at hdim
            simp only at hdim
            split at hdim
            · rename_i hall
              cases hdim
              have hal := allB_len ha
              have hW1 : ¬ (wordsS s).length < 2 := fun h => hW (.inl h)
              have hW2 : ¬ 4 < (wordsS s).length := fun h => hW (.inr (.inl h))
              have hW3 : (wordsS s).head? = some inputB := Classical.not_not.1 (fun h => hW (.inr (.inr h)))
              have hw : wordsS s = inputB :: (wordsS s).tail := by
                cases hh : wordsS s with
                | nil => rw [hh] at hW3; cases hW3
                | cons y ys => rw [hh] at hW3; cases hW3; rfl
              rw [List.length_tail] at hal
              have e0 : s = inputB ++ numsT (ns.map (fun (n : Nat) => (n : Int))) := by
                rw [← allB_nums ha]
                exact cut_join 32 (words_one hw (by simp))
              have e1 : (lossK (wordsS s1) = 1 ∧ s1 = lossB ++ 32 :: xentB) ∨ (lossK (wordsS s1) = 2 ∧ s1 = lossB ++ 32 :: squareB) := by
                unfold lossK at hl ⊢
                split
                · rename_i h1
                  exact .inl ⟨rfl, by have := cut_join 32 (words_one h1 (by simp)); simpa using this⟩
                · rename_i h1
                  rw [if_neg h1] at hl
                  split
                  · rename_i h2
                    exact .inr ⟨rfl, by have := cut_join 32 (words_one h2 (by simp)); simpa using this⟩
                  · rename_i h2
                    rw [if_neg h2] at hl
                    exact absurd rfl hl
              refine ⟨Classical.not_not.1 hr, ?_, ?_⟩
              · unfold goodD
                simp only [Bool.and_eq_true, decide_eq_true_eq]
                refine ⟨⟨⟨by rw [List.length_map]; omega, by rcases e1 with ⟨h, -⟩ | ⟨h, -⟩; exact .inl h; exact .inr h⟩, ?_⟩, by rw [a5]; rfl⟩
                rw [List.all_map]
                refine List.all_eq_true.2 (fun n hn => ?_)
                have := List.all_eq_true.1 hall n hn
                simp only [decide_eq_true_eq] at this
                simp only [Function.comp, decide_eq_true_eq]
                omega
              · have hseg : ls = (ls.drop 0).take (0 + 1 - 0) ++ ((ls.drop 1).take (i1 - 1) ++ (ls.drop i1).take (i1 + 1 - i1)) := by
                  rw [← seg_app ls a2 (Nat.le_succ i1), ← seg_app ls (Nat.le_succ 0) (show 0 + 1 ≤ i1 + 1 by omega), hlen, Nat.sub_zero, List.drop_zero, List.take_length]
                rw [hseg, seg_one hs, seg_one hs1]
                simp only [joinL_app, joinL_one]
                rw [a4]
                unfold printS
                simp only
                rcases e1 with ⟨h, h'⟩ | ⟨h, h'⟩
                · rw [h, if_pos rfl, h', e0]; simp
                · rw [h, if_neg (by decide), h', e0]; simp
            · cases hdim
/-- What is read is told as it stood, and may be. -/
theorem parse_text {b : Bs} {d : DefL} {n : Nat} (h : parseP ((cutAt 10 b).dropLast.map wordsS) ((cutAt 10 b).getLastD []) = (some d, n)) : goodD d = true ∧ printS d = b := by
  obtain ⟨h1, h2, h3⟩ := parseP_text h
  refine ⟨h2, ?_⟩
  have e := cut_lines 10 b
  rw [h1, List.append_nil] at e
  rw [h3]
  exact e.symm
end Go.Proofs.YtgokenbojppnhaaDoor
