/- Layers, as a world holds them. -/
import Derived.Test.YtfimmcnfmipnlaaDoorDefOne
namespace Go.Proofs.YtfimmcnfmipnlaaDoor
open Go.RowKit
/-- Layers, n deep at most, in a world; all their blocks are such as A says. -/
def LaysAt (A : Nat → Prop) (w : World) : Nat → Value → List Lay → Prop
  | 0, v, L => L = [] ∧ ∃ a c, v = .slice a 0 c
  | n + 1, v, L => ∃ a cap, v = .slice a L.length cap ∧ L.length ≤ maxLen ∧ (L ≠ [] → ∃ b o, a = some ⟨b, o, none⟩ ∧ A b ∧ ∀ i (h : i < L.length), ∃ bv, (∃ a n c, bv = .slice a n c) ∧ (∀ j, j < 9 → w.cell? ⟨b, o + i * 9 + j, none⟩ = (layA L[i].f bv)[j]?) ∧ LaysAt A w n bv L[i].b)
theorem LaysAt.keep {A A' : Nat → Prop} {w w' : World} (hA : ∀ b, A b → A' b) (hw : ∀ b, A b → b < w.heap.size → w'.heap[b]? = w.heap[b]?) : ∀ {n : Nat} {v : Value} {L : List Lay}, LaysAt A w n v L → LaysAt A' w' n v L
  | 0, _, _, h => h
  | n + 1, _, L, h => by
    obtain ⟨a, cap, rfl, h1, h2⟩ := h
    refine ⟨a, cap, rfl, h1, fun hn => ?_⟩
    obtain ⟨b, o, rfl, hb, hc⟩ := h2 hn
    refine ⟨b, o, rfl, hA b hb, fun i hi => ?_⟩
    obtain ⟨bv, hs, h3, h4⟩ := hc i hi
    refine ⟨bv, hs, fun j hj => ?_, h4.keep hA hw⟩
    have e := h3 j hj
    have hlt : b < w.heap.size := by
      have hx : j < (layA L[i].f bv).size := by simpa [layA] using hj
      rw [Array.getElem?_eq_getElem hx] at e
      exact cell_lt e
    rw [← e]
    exact World.cell?_of_block (hw b hb hlt)
theorem LaysAt.up {A : Nat → Prop} {w : World} : ∀ {n : Nat} {v : Value} {L : List Lay}, LaysAt A w n v L → LaysAt A w (n + 1) v L
  | 0, _, _, ⟨h, a, c, e⟩ => by subst h; subst e; exact ⟨a, c, rfl, by simp, fun h => absurd rfl h⟩
  | n + 1, _, L, h => by
    obtain ⟨a, cap, rfl, h1, h2⟩ := h
    refine ⟨a, cap, rfl, h1, fun hn => ?_⟩
    obtain ⟨b, o, rfl, hb, hc⟩ := h2 hn
    refine ⟨b, o, rfl, hb, fun i hi => ?_⟩
    obtain ⟨bv, hs, h3, h4⟩ := hc i hi
    exact ⟨bv, hs, h3, h4.up⟩
theorem LaysAt.mono {A A' : Nat → Prop} {w : World} {n : Nat} {v : Value} {L : List Lay} (h : LaysAt A w n v L) (hA : ∀ b, A b → A' b) : LaysAt A' w n v L := h.keep hA (fun _ _ _ => rfl)
theorem LaysAt.ext {A : Nat → Prop} {w w' : World} {n : Nat} {v : Value} {L : List Lay} (h : LaysAt A w n v L) (x : Ext w w') : LaysAt A w' n v L := h.keep (fun _ h => h) (fun b _ hb => x.block b hb)
theorem LaysAt.nil (A : Nat → Prop) (w : World) (n : Nat) (a : Option Addr) (c : Nat) : LaysAt A w n (.slice a 0 c) [] := by
  cases n with
  | zero => exact ⟨rfl, a, c, rfl⟩
  | succ n => exact ⟨a, c, rfl, by simp, fun h => absurd rfl h⟩
theorem LaysAt.form {A : Nat → Prop} {w : World} {n : Nat} {v : Value} {L : List Lay} (h : LaysAt A w n v L) : ∃ a c, v = .slice a L.length c := by
  cases n with
  | zero => obtain ⟨rfl, a, c, e⟩ := h; exact ⟨a, c, e⟩
  | succ n => obtain ⟨a, c, e, -⟩ := h; exact ⟨a, c, e⟩
/-- The cells of layers, each with its body's value. -/
def layCells (ps : List (LayF × Value)) : List Value := ps.flatMap (fun p => (layA p.1 p.2).toList)
theorem layCells_len (ps : List (LayF × Value)) : (layCells ps).length = ps.length * 9 := by
  induction ps with
  | nil => rfl
  | cons p ps ih => simp only [layCells, List.flatMap_cons, List.length_append] at ih ⊢; rw [ih]; simp [layA]; omega
theorem layCells_at : ∀ (ps : List (LayF × Value)) (i : Nat) (h : i < ps.length) (j : Nat), j < 9 → (layCells ps)[i * 9 + j]? = (layA ps[i].1 ps[i].2)[j]?
  | [], i, h, _, _ => by simp at h
  | p :: ps, 0, _, j, hj => by
    simp only [layCells, List.flatMap_cons, Nat.zero_mul, Nat.zero_add, List.getElem_cons_zero]
    rw [List.getElem?_append_left (by simpa [layA] using hj), Array.getElem?_toList]
  | p :: ps, i + 1, h, j, hj => by
    have ih := layCells_at ps i (by simpa using h) j hj
    simp only [layCells, List.flatMap_cons, List.getElem_cons_succ] at ih ⊢
    rw [List.getElem?_append_right (by simp [layA]; omega)]
    rw [← ih]
    congr 1
    simp [layA]; omega
theorem layCells_snoc (ps : List (LayF × Value)) (p : LayF × Value) : layCells (ps ++ [p]) = layCells ps ++ (layA p.1 p.2).toList := by simp [layCells]
theorem lay_info : (Tryd.prog.info? 49).map (fun i => (i.zero, i.size, i.bytes)) = some (some (.agg (layA LayF.zero (.slice none 0 0))), 9, 88) := by kernel_rfl
theorem oneL_1 (f : LayF) (a : Option Addr) (n c : Nat) : ∀ u ∈ (layA f (.slice a n c)).toList, u.oneCell' = true := by
  intro u hu
  simp only [layA, List.mem_cons, List.not_mem_nil, or_false] at hu
  rcases hu with rfl | rfl | rfl | rfl | rfl | rfl | rfl | rfl | rfl <;> rfl
theorem newsL_1 (w : World) (f : LayF) (v : Value) (t : TypeId) : ∀ j u, (layA f v).toList[j]? = some u → (w.alloc (.cells (layA f v) t)).cell? ((⟨w.heap.size, 0, none⟩ : Addr).add j) = some u :=
  World.news_of_block (cs := layA f v) (t := t) (fr := (0, 0)) (heap_alloc_new w _)
/-- Layers out of an own row. -/
theorem LaysAt.of_owns {A : Nat → Prop} {w : World} {base : Nat} {v : Value} {n k : Nat} {ps : List (LayF × Value)} {L : List Lay} (h : w.ownsRow base 49 9 v n (layCells ps)) (hA : ∀ b, v.ownBlock = some b → A b)
    (hl : L.length = ps.length) (hm : L.length ≤ maxLen) (hf : ∀ i (h1 : i < L.length) (h2 : i < ps.length), L[i].f = ps[i].1 ∧ (∃ a n c, ps[i].2 = .slice a n c) ∧ LaysAt A w k ps[i].2 L[i].b) : LaysAt A w (k + 1) v L := by
  have hn : ps.length = n := by have := h.1; rw [layCells_len] at this; omega
  rcases h.2 with ⟨rfl, h0⟩ | ⟨g, cap, cur, rfl, hb, hg, h1, h2, h3, h4⟩
  · have : L = [] := List.eq_nil_of_length_eq_zero (by omega)
    subst this
    exact ⟨none, 0, rfl, by simp, fun h => absurd rfl h⟩
  · refine ⟨_, cap, by rw [hl, hn], hm, fun _ => ⟨g, 0, rfl, hA g rfl, fun i hi => ?_⟩⟩
    obtain ⟨e1, e2, e3⟩ := hf i hi (by omega)
    refine ⟨ps[i].2, e2, fun j hj => ?_, e3⟩
    have := h.cellAt (i * 9 + j) (by have : i < n := by omega
                                     omega)
    rw [Nat.zero_add, e1, ← layCells_at ps i (by omega) j hj]
    exact this
/-- Layers that may be written: own blocks, n deep at most. -/
def OwnL (A : Nat → Prop) (w : World) : Nat → Value → Prop
  | 0, v => v = .slice none 0 0
  | n + 1, v => v = .slice none 0 0 ∨ ∃ g len cap cur, v = .slice (some ⟨g, 0, none⟩) len cap ∧ A g ∧ Blk w g 49 cur ∧ cur.size = cap * 9 ∧ len ≤ cap ∧ cap ≤ maxLen ∧ len ≤ 100000 ∧ ∀ i, i < len → (∀ p, p < 8 → ∃ x, cur[i * 9 + p]? = some (.int .i64 x)) ∧ ∃ bv, cur[i * 9 + 8]? = some bv ∧ OwnL A w n bv
theorem OwnL.keep {A A' : Nat → Prop} {w w' : World} (hA : ∀ b, A b → A' b) (hw : ∀ b, A b → b < w.heap.size → w'.heap[b]? = w.heap[b]?) : ∀ {n : Nat} {v : Value}, OwnL A w n v → OwnL A' w' n v
  | 0, _, h => h
  | n + 1, _, .inl h => .inl h
  | n + 1, _, .inr h => by
    obtain ⟨g, len, cap, cur, rfl, h1, h2, h3, h4, h5, h5', h6⟩ := h
    refine .inr ⟨g, len, cap, cur, rfl, hA g h1, (hw g h1 h2.lt).trans h2, h3, h4, h5, h5', fun i hi => ?_⟩
    obtain ⟨a, bv, b, c⟩ := h6 i hi
    exact ⟨a, bv, b, c.keep hA hw⟩
theorem OwnL.up {A : Nat → Prop} {w : World} : ∀ {n : Nat} {v : Value}, OwnL A w n v → OwnL A w (n + 1) v
  | 0, _, h => .inl h
  | n + 1, _, .inl h => .inl h
  | n + 1, _, .inr h => by
    obtain ⟨g, len, cap, cur, rfl, h1, h2, h3, h4, h5, h5', h6⟩ := h
    refine .inr ⟨g, len, cap, cur, rfl, h1, h2, h3, h4, h5, h5', fun i hi => ?_⟩
    obtain ⟨a, bv, b, c⟩ := h6 i hi
    exact ⟨a, bv, b, c.up⟩
theorem OwnL.nil (A : Nat → Prop) (w : World) (n : Nat) : OwnL A w n (.slice none 0 0) := by
  cases n with
  | zero => rfl
  | succ n => exact .inl rfl
theorem OwnL.of_owns {A : Nat → Prop} {w : World} {base : Nat} {v : Value} {n k : Nat} {ps : List (LayF × Value)} (h : w.ownsRow base 49 9 v n (layCells ps)) (hA : ∀ b, v.ownBlock = some b → A b) (hm : n ≤ 100000)
    (hf : ∀ i (h2 : i < ps.length), OwnL A w k ps[i].2) : OwnL A w (k + 1) v := by
  have hn : ps.length = n := by have := h.1; rw [layCells_len] at this; omega
  rcases h.2 with ⟨rfl, h0⟩ | ⟨g, cap, cur, rfl, hb, hg, h1, h2, h3, h4⟩
  · exact .inl rfl
  · have at' : ∀ i (hi : i < n) p, p < 9 → cur[i * 9 + p]? = (layA (ps[i]'(by omega)).1 (ps[i]'(by omega)).2)[p]? := fun i hi p hp => by
      rw [← layCells_at ps i (by omega) p hp, ← h4, List.getElem?_take, if_pos (by omega), Array.getElem?_toList]
    refine .inr ⟨g, n, cap, cur, rfl, hA g rfl, hg, h3, h1, h2, hm, fun i hi => ⟨fun p hp => ?_, ps[i].2, ?_, hf i (by omega)⟩⟩
    · rw [at' i hi p (by omega), layA_at _ _ hp]; exact ⟨_, rfl⟩
    · rw [at' i hi 8 (by omega)]; rfl
/-- Layers of new memory. -/
def MyLays (A : Nat → Prop) (w : World) (n : Nat) (v : Value) (L : List Lay) : Prop := LaysAt A w n v L ∧ OwnL A w n v
theorem MyLays.keep {A A' : Nat → Prop} {w w' : World} {n : Nat} {v : Value} {L : List Lay} (h : MyLays A w n v L) (hA : ∀ b, A b → A' b) (hw : ∀ b, A b → b < w.heap.size → w'.heap[b]? = w.heap[b]?) : MyLays A' w' n v L := ⟨h.1.keep hA hw, h.2.keep hA hw⟩
theorem MyLays.mono {A A' : Nat → Prop} {w : World} {n : Nat} {v : Value} {L : List Lay} (h : MyLays A w n v L) (hA : ∀ b, A b → A' b) : MyLays A' w n v L := h.keep hA (fun _ _ _ => rfl)
theorem MyLays.ext {A : Nat → Prop} {w w' : World} {n : Nat} {v : Value} {L : List Lay} (h : MyLays A w n v L) (x : Ext w w') : MyLays A w' n v L := h.keep (fun _ h => h) (fun b _ hb => x.block b hb)
theorem MyLays.nil (A : Nat → Prop) (w : World) (n : Nat) : MyLays A w n (.slice none 0 0) [] := ⟨LaysAt.nil _ _ _ _ _, OwnL.nil _ _ _⟩
theorem MyLays.form {A : Nat → Prop} {w : World} {n : Nat} {v : Value} {L : List Lay} (h : MyLays A w n v L) : ∃ a c, v = .slice a L.length c := h.1.form
theorem MyLays.of_owns {A : Nat → Prop} {w : World} {base : Nat} {v : Value} {n k : Nat} {ps : List (LayF × Value)} {L : List Lay} (h : w.ownsRow base 49 9 v n (layCells ps)) (hA : ∀ b, v.ownBlock = some b → A b)
    (hl : L.length = ps.length) (hm : L.length ≤ 100000) (hf : ∀ i (h1 : i < L.length) (h2 : i < ps.length), L[i].f = ps[i].1 ∧ (∃ a n c, ps[i].2 = .slice a n c) ∧ MyLays A w k ps[i].2 L[i].b) : MyLays A w (k + 1) v L :=
  ⟨LaysAt.of_owns h hA hl (by unfold maxLen; omega) (fun i h1 h2 => ⟨(hf i h1 h2).1, (hf i h1 h2).2.1, (hf i h1 h2).2.2.1⟩), OwnL.of_owns h hA (by have := h.1; rw [layCells_len] at this; omega) (fun i h2 => (hf i (by omega) h2).2.2.2)⟩
/-- Layers that are gathered: an own row, each with its body elsewhere. -/
structure AccAt (base : Nat) (w : World) (e : Nat) (v : Value) (acc : List Lay) : Prop where
  is : ∃ ps : List (LayF × Value), w.ownsRow base 49 9 v acc.length (layCells ps) ∧ acc.length = ps.length ∧ ∀ i (h1 : i < acc.length) (h2 : i < ps.length), acc[i].f = ps[i].1 ∧ (∃ a n c, ps[i].2 = .slice a n c) ∧ MyLays (fun b => base ≤ b ∧ b < w.heap.size ∧ v.ownBlock ≠ some b) w e ps[i].2 acc[i].b
theorem AccAt.nil (base : Nat) (w : World) (e : Nat) : AccAt base w e (.slice none 0 0) [] :=
  ⟨⟨[], World.ownsRow_nil _ _ _ _, rfl, fun i h => by simp at h⟩⟩
theorem AccAt.gb {base : Nat} {w W : World} {e R : Nat} {v : Value} {acc : List Lay} (h : AccAt base w e v acc) (hg : GB w W R) (hR : R < base) : AccAt base W e v acc := by
  obtain ⟨ps, h1, h2, h3⟩ := h.is
  refine ⟨⟨ps, h1.kept hg (.inr (fun e => by have := (h1.lt R e).1; omega)), h2, fun i i1 i2 => ?_⟩⟩
  obtain ⟨a, b, c⟩ := h3 i i1 i2
  exact ⟨a, b, c.keep (fun b hb => ⟨hb.1, Nat.lt_of_lt_of_le hb.2.1 hg.size, hb.2.2⟩) (fun b hb hlt => hg.block b hlt (fun e => by have := Option.some.inj e; omega))⟩
theorem AccAt.ext {base : Nat} {w W : World} {e : Nat} {v : Value} {acc : List Lay} (h : AccAt base w e v acc) (x : Ext w W) : AccAt base W e v acc := by
  obtain ⟨ps, h1, h2, h3⟩ := h.is
  refine ⟨⟨ps, own_old h1 x, h2, fun i i1 i2 => ?_⟩⟩
  obtain ⟨a, b, c⟩ := h3 i i1 i2
  exact ⟨a, b, c.keep (fun b hb => ⟨hb.1, Nat.lt_of_lt_of_le hb.2.1 x.size, hb.2.2⟩) (fun b _ hlt => x.block b hlt)⟩
theorem AccAt.form {base : Nat} {w : World} {e : Nat} {v : Value} {acc : List Lay} (h : AccAt base w e v acc) : ∃ a c, v = .slice a acc.length c := by
  obtain ⟨ps, h1, -, -⟩ := h.is
  rcases h1.2 with ⟨rfl, h0⟩ | ⟨g, cap, _, rfl, _⟩
  · exact ⟨none, 0, by rw [h0]⟩
  · exact ⟨_, _, rfl⟩
theorem AccAt.lays {base : Nat} {w : World} {e : Nat} {v : Value} {acc : List Lay} (h : AccAt base w e v acc) (hm : acc.length ≤ 100000) : MyLays (fun b => base ≤ b ∧ b < w.heap.size) w (e + 1) v acc := by
  obtain ⟨ps, h1, h2, h3⟩ := h.is
  refine MyLays.of_owns h1 (fun b hb => h1.lt b hb) h2 hm (fun i i1 i2 => ?_)
  obtain ⟨a, b, c⟩ := h3 i i1 i2
  exact ⟨a, b, c.mono (fun b hb => ⟨hb.1, hb.2.1⟩)⟩
/-- One layer more. -/
theorem AccAt.snoc {base : Nat} {w W w1 : World} {e n : Nat} {v v' bv : Value} {acc : List Lay} {ps : List (LayF × Value)} {f : LayF} {b : List Lay} (h2 : acc.length = ps.length) (hn : n = acc.length)
    (h3 : ∀ i (h1 : i < acc.length) (h2 : i < ps.length), acc[i].f = ps[i].1 ∧ (∃ a n c, ps[i].2 = .slice a n c) ∧ MyLays (fun b => base ≤ b ∧ b < w.heap.size ∧ v.ownBlock ≠ some b) w e ps[i].2 acc[i].b)
    (hx : Ext w W) (hg : W.grownBy w1 v.ownBlock) (ho : w1.ownsRow base 49 9 v' (n + 1) (layCells ps ++ (layA f bv).toList)) (hb : v'.ownBlock = v.ownBlock ∨ v'.ownBlock = some W.heap.size)
    (hs : ∃ a n c, bv = .slice a n c) (ht : MyLays (fun b => base ≤ b ∧ b < w.heap.size ∧ v.ownBlock ≠ some b) w e bv b) : AccAt base w1 e v' (acc ++ [.mk f b]) := by
  have up : ∀ {u : Value} {L : List Lay}, MyLays (fun b => base ≤ b ∧ b < w.heap.size ∧ v.ownBlock ≠ some b) w e u L → MyLays (fun b => base ≤ b ∧ b < w1.heap.size ∧ v'.ownBlock ≠ some b) w1 e u L := fun hu =>
    hu.keep (fun b hb' => ⟨hb'.1, Nat.lt_of_lt_of_le hb'.2.1 (Nat.le_trans hx.size hg.size), fun e => by
      rcases hb with h | h
      · exact hb'.2.2 (h ▸ e)
      · rw [h] at e
        have := Option.some.inj e
        have := hx.size
        omega⟩) (fun b hb' hlt => (hg.block b (Nat.lt_of_lt_of_le hlt hx.size) (fun e => hb'.2.2 e.symm)).trans (hx.block b hlt))
  refine ⟨⟨ps ++ [(f, bv)], by rw [List.length_append, layCells_snoc, ← hn]; exact ho, by simp [h2], fun i i1 i2 => ?_⟩⟩
  rcases Nat.lt_or_ge i acc.length with hlt | hge
  · obtain ⟨a, b, c⟩ := h3 i hlt (by omega)
    rw [List.getElem_append_left hlt, List.getElem_append_left (by omega)]
    exact ⟨a, b, up c⟩
  · have : i = acc.length := by simp at i1; omega
    subst this
    have e1 : (acc ++ [Lay.mk f b])[acc.length] = Lay.mk f b := by simp
    have e2 : (ps ++ [(f, bv)])[acc.length]'i2 = (f, bv) := by simp [h2]
    rw [e1, e2]
    exact ⟨rfl, hs, up ht⟩
end Go.Proofs.YtfimmcnfmipnlaaDoor
