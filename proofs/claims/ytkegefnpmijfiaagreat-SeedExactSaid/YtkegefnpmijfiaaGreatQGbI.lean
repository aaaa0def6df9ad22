/- Slices of numbers, as a world holds them. Worlds that grow by an append; rows that the call owns. A block that is known whole. A block of integers, known whole. Worlds that are alike but for one block. A range over a function whose iterator keeps a state of its own in a cell's block: what such an iterator promises (Iter), and the law for the loop over it (range_iter). What stays as it was while an iterator runs: no function of the program is named here. A range over a function whose iterator keeps a state of its own, and which tells of each element what the world holds of it (IterY, rangeY_iter; as Iter, range_iter). A region that draws, within a round over an iterator: walked as outside of one. A range over a function whose iterator calls itself, and makes memory as it goes: what such an iterator promises (IterG: KI, what the iterator may do to the memory; KC, what a round may do; At, what the memory holds of what comes), and the law for the loop over it (range_g): no function of the program is named here. -/
import Derived.Test.YtkegefnpmijfiaaGreatQBase
import Derived.WalkKit
import Derived.Laws.AppendOwn
import Derived.Laws.OwnMore
import Derived.Deep.Draws
import Derived.Laws.Rows
import Derived.RangeFuncFrom
import Derived.RangeFuncNested
import Derived.RangeFuncBound
import Derived.RangeFuncCalls
import Derived.RangeFuncLeaves
import Derived.Shelf.Abstract
import Derived.Shelf.RegionOpen
import Derived.OwnWalkIn
import Derived.TacticsInMore
import Derived.LoopNIn
import Derived.LoopIn
import Derived.Deep.RegionHeld
namespace Go.Proofs.YtkegefnpmijfiaaGreat
open Go.RowKit
/-- v is a slice of the numbers ds, as w holds them. -/
def Row (k : IntKind) (w : World) (v : Value) (ds : List Int) : Prop :=
  ∃ a cap, v = .slice a ds.length cap ∧ ds.length ≤ cap ∧ cap ≤ maxLen ∧ (ds ≠ [] → ∃ b o, a = some ⟨b, o, none⟩ ∧ ∀ i, i < ds.length → w.cell? ⟨b, o + i, none⟩ = some (.int k (ds.getD i 0)))
theorem Row.ext {k : IntKind} {w w' : World} {v : Value} {ds : List Int} (h : Row k w v ds) (x : Ext w w') : Row k w' v ds := by
  obtain ⟨a, cap, rfl, h1, h2, h3⟩ := h
  refine ⟨a, cap, rfl, h1, h2, fun hn => ?_⟩
  obtain ⟨b, o, rfl, hc⟩ := h3 hn
  exact ⟨b, o, rfl, fun i hi => x.cell (hc i hi)⟩
theorem getD_mem (ds : List Int) (i : Nat) (h : i < ds.length) : ds.getD i 0 ∈ ds := by
  rw [List.getD_eq_getElem?_getD, List.getElem?_eq_getElem h]; exact List.getElem_mem h
/-- v's row, if it has one, is none of w's. -/
def New (w : World) (v : Value) : Prop := ∀ b, v.ownBlock = some b → w.heap.size ≤ b
theorem getD_take (ds : List Int) (n i : Nat) (h : i < n) : (ds.take n).getD i 0 = ds.getD i 0 := by
  simp [List.getD, h]
theorem Row.nil (k : IntKind) (w : World) : Row k w (.slice none 0 0) [] := ⟨none, 0, rfl, Nat.le_refl _, by unfold maxLen; omega, fun h => absurd rfl h⟩
theorem Row.take {k : IntKind} {w : World} {b o cap n : Nat} {ds : List Int} (h1 : ds.length ≤ cap) (h2 : cap ≤ maxLen) (hn : n ≤ ds.length)
    (hc : ∀ i, i < ds.length → w.cell? ⟨b, o + i, none⟩ = some (.int k (ds.getD i 0))) : Row k w (.slice (some ⟨b, o, none⟩) n cap) (ds.take n) := by
  have hl : (ds.take n).length = n := by rw [List.length_take]; omega
  refine ⟨some ⟨b, o, none⟩, cap, by rw [hl], by omega, h2, fun _ => ⟨b, o, rfl, fun i hi => ?_⟩⟩
  rw [hl] at hi
  rw [getD_take _ _ _ hi]; exact hc i (by omega)
theorem take_succ_getD (ds : List Int) (k : Nat) (h : k < ds.length) : ds.take (k + 1) = ds.take k ++ [ds.getD k 0] := by
  rw [List.take_add_one, List.getD_eq_getElem?_getD, List.getElem?_eq_getElem h]; rfl
end Go.Proofs.YtkegefnpmijfiaaGreat
namespace Go.Proofs.YtkegefnpmijfiaaGreat
open Go.RowKit
theorem Ext.grown {a b c : World} {row : Option Nat} (h : Ext a b) (hg : b.grownBy c row) (hrow : ∀ k, row = some k → a.heap.size ≤ k) : Ext a c :=
  ⟨hg.os.trans h.os, hg.tape.trans h.tape, hg.output.trans h.output, Nat.le_trans h.size hg.size, fun i hi =>
    (hg.block i (Nat.lt_of_lt_of_le hi h.size) (fun e => by have := hrow i e.symm; omega)).trans (h.block i hi)⟩
theorem Row.of_owns {w : World} {base : Nat} {e : TypeId} {v : Value} {n : Nat} {xs : List Int} {k : IntKind} (h : w.ownsRow base e 1 v n (xs.map (Value.int k))) : Row k w v xs ∧ xs.length = n := by
  have hl : xs.length = n := by simpa using h.1
  subst hl
  refine ⟨?_, rfl⟩
  rcases h.2 with ⟨rfl, h0⟩ | ⟨g, cap, cur, rfl, hb, hg, h1, h2, h3, h4⟩
  · have : xs = [] := List.eq_nil_of_length_eq_zero h0
    subst this; exact Row.nil k w
  · refine ⟨_, cap, rfl, h1, h2, fun _ => ⟨g, 0, rfl, fun i hi => ?_⟩⟩
    rw [Nat.zero_add, h.cellAt i (by omega), List.getElem?_map, List.getD_eq_getElem?_getD, List.getElem?_eq_getElem hi]
    rfl
end Go.Proofs.YtkegefnpmijfiaaGreat
namespace Go.Proofs.YtkegefnpmijfiaaGreat
open Go.RowKit
def Blk (w : World) (g : Nat) (t : TypeId) (cs : Array Value) : Prop := w.heap[g]? = some (.cells cs t (0, 0))
section
variable {w w' : World} {g : Nat} {t : TypeId} {cs : Array Value}
theorem Blk.lt (h : Blk w g t cs) : g < w.heap.size := by
  rcases Nat.lt_or_ge g w.heap.size with hlt | hge
  · exact hlt
  · unfold Blk at h; rw [Array.getElem?_eq_none hge] at h; cases h
theorem Blk.cell (h : Blk w g t cs) (i : Nat) : w.cell? ⟨g, i, none⟩ = cs[i]? := cell_of_row w g i cs t (0, 0) h
theorem Blk.frozen (h : Blk w g t cs) (i : Nat) : w.frozen? ⟨g, i, none⟩ = false := by
  unfold Blk at h
  simp [World.frozen?, h]
theorem Blk.new (w : World) (t : TypeId) (cs : Array Value) : Blk (w.alloc (.cells cs t)) w.heap.size t cs := heap_alloc_new w _
theorem Blk.drew (h : Blk w g t cs) : Blk w.drew g t cs := h
theorem Blk.drewN (h : Blk w g t cs) (n : Nat) : Blk (w.drewN n) g t cs := h
theorem Blk.alloc (h : Blk w g t cs) (o : Obj) : Blk (w.alloc o) g t cs := (Below.heap_alloc w o g h.lt).trans h
theorem Blk.set_ (h : Blk w g t cs) (i : Nat) (u : Value) : Blk (w.setCell ⟨g, i, none⟩ u) g t (cs.setIfInBounds i u) := by
  unfold Blk at h ⊢
  simp [World.setCell, Array.getElem?_modify, h]
theorem Blk.far (h : Blk w g t cs) {p : Addr} (hp : g ≠ p.block) (u : Value) : Blk (w.setCell p u) g t cs := (Below.heap_setCell w p u g hp).trans h
theorem Blk.ext (h : Blk w g t cs) (x : Ext w w') : Blk w' g t cs := (x.block g h.lt).trans h
theorem Blk.grown {row : Option Nat} (h : Blk w g t cs) (hb : w.grownBy w' row) (hg : some g ≠ row) : Blk w' g t cs := (hb.block g h.lt hg).trans h
theorem Blk.kept {row : Option Nat} (h : Blk w g t cs) (hb : w.grownBy w' row) (hrow : ∀ r, row = some r → ∃ o : Obj, w.heap[r]? = some o ∧ o.isCells = false) : Blk w' g t cs :=
  h.grown hb (fun e => by
    obtain ⟨o, ho, hc⟩ := hrow g e.symm
    unfold Blk at h
    rw [h] at ho
    cases ho
    simp [Obj.isCells] at hc)
end
end Go.Proofs.YtkegefnpmijfiaaGreat
namespace Go.Proofs.YtkegefnpmijfiaaGreat
open Go.RowKit
theorem own_base {w : World} {base base' : Nat} {e : TypeId} {size : Nat} {v : Value} {n : Nat} {xs : List Value} (h : w.ownsRow base e size v n xs) (hb : base' ≤ base) : w.ownsRow base' e size v n xs := by
  refine ⟨h.1, ?_⟩
  rcases h.2 with h0 | ⟨g, cap, cur, hv, h1, h2⟩
  · exact .inl h0
  · exact .inr ⟨g, cap, cur, hv, Nat.le_trans hb h1, h2⟩
theorem own_old {w w' : World} {base : Nat} {e : TypeId} {size : Nat} {v : Value} {n : Nat} {xs : List Value} (h : w.ownsRow base e size v n xs) (x : Ext w w') : w'.ownsRow base e size v n xs :=
  h.kept (row := none) ⟨x.os, x.tape, x.output, x.size, fun k hk _ => x.block k hk⟩ (by cases hv : v.ownBlock <;> simp)
def ints (l : List Int) : Array Value := (l.map (Value.int .i64)).toArray
theorem ints_at (l : List Int) (i : Nat) (h : i < l.length) : (ints l)[i]? = some (.int .i64 (l.getD i 0)) := by
  unfold ints
  rw [List.getElem?_toArray, List.getElem?_map, List.getElem?_eq_getElem h, List.getD_eq_getElem?_getD, List.getElem?_eq_getElem h]
  rfl
theorem ints_set (l : List Int) (i : Nat) (x : Int) : (ints l).setIfInBounds i (.int .i64 x) = ints (l.set i x) := by
  unfold ints
  rw [List.setIfInBounds_toArray, List.map_set]
theorem Row.of_blk {w : World} {E : Nat} {t : TypeId} {l : List Int} {n : Nat} (h : Blk w E t (ints l)) (hl : l.length = n) (hn : n ≤ maxLen) : Row .i64 w (.slice (some ⟨E, 0, none⟩) n n) l := by
  subst hl
  refine ⟨_, _, rfl, Nat.le_refl _, hn, fun _ => ⟨E, 0, rfl, fun i hi => ?_⟩⟩
  rw [Nat.zero_add, h.cell, ints_at l i hi]
theorem own_blk {w : World} {base g n : Nat} {t : TypeId} {l : List Int} (h : w.ownsRow base t 1 (.slice (some ⟨g, 0, none⟩) n n) n (l.map (Value.int .i64))) : Blk w g t (ints l) := by
  rcases h.2 with ⟨h0, _⟩ | ⟨g', cap, cur, hv, _, hg, _, _, hs, ht⟩
  · cases h0
  · cases hv
    unfold Blk ints
    rw [hg, ← ht, Nat.mul_one, List.take_of_length_le (by simp; omega)]
end Go.Proofs.YtkegefnpmijfiaaGreat
namespace Go.Proofs.YtkegefnpmijfiaaGreat
open Go.RowKit
section
variable {w W W' : World} {b : Nat}
end
theorem own_form1 {W : World} {base : Nat} {e : TypeId} {size : Nat} {v : Value} {k : Nat} {xs : List Value} (h : W.ownsRow base e size v k xs) (hk : 0 < k) : ∃ g cap, v = .slice (some ⟨g, 0, none⟩) k cap ∧ base ≤ g ∧ g < W.heap.size := by
  rcases h.2 with ⟨_, h0⟩ | ⟨g, cap, cur, rfl, hb, hg, _⟩
  · omega
  · exact ⟨g, cap, rfl, hb, (Array.getElem?_eq_some_iff.1 hg).1⟩
theorem own_far {w : World} {base : Nat} {e : TypeId} {size : Nat} {v : Value} {n : Nat} {xs : List Value} {b : Nat} (h : w.ownsRow base e size v n xs) (hb : v.ownBlock ≠ some b) (o : Nat) (u : Value) : (w.setCell ⟨b, o, none⟩ u).ownsRow base e size v n xs :=
  h.kept (row := some b) ⟨rfl, rfl, rfl, by simp, fun k _ hk => Below.heap_setCell _ _ _ k (fun e => hk (by rw [e]))⟩ (.inr hb)
end Go.Proofs.YtkegefnpmijfiaaGreat
namespace Go.Proofs.YtkegefnpmijfiaaGreat
open Go.RowKit Go.Shelf
section
variable {F : Fence} {n : Nat} {P : Program} {α : Type}
/-- J stands whatever is made of the iterator's own block, and whatever new blocks there are. -/
def Bides {β : Type} (B : Nat) (J : β → World → Prop) : Prop := ∀ s W W', J s W → W.grownBy W' (some B) → J s W'
/-- An iterator with its state in block B: Pre: what has come up to now may be so; S: all that comes; N: by no J that stands do more come. -/
def Iter (F : Fence) (n : Nat) (P : Program) (g : Nat) (lb : Array Value) (encs : α → Array Value) (Kp : World → World → Prop) (Pre S : List α → Prop) (N B : Nat) (w : World) : Prop :=
  ∀ (l : Nat) (J Jx : List α → World → Prop) (W : World), Kp w W → Bides B J → Bides B Jx →
    (∀ pre x W1, Pre (pre ++ [x]) → J pre W1 → YieldAt F (n - 1) P l (encs x) W1 fun e W' =>
      (e = .returned (.bool true) ∧ J (pre ++ [x]) W' ∧ Kp W1 W') ∨ (e = .returned (.bool false) ∧ Jx (pre ++ [x]) W')) →
    (∀ pre W1, Pre pre → J pre W1 → pre.length ≤ N) → J [] W →
    CallsIn F n P g (#[.func (.yield l) #[] #[]] ++ lb) W fun e W' => (∃ v, e = .returned v) ∧ ((∃ xs, S xs ∧ J xs W') ∨ (∃ pre, Pre pre ∧ Jx pre W'))
theorem grown_far {W W' : World} {B k : Nat} {o : Obj} (hg : W.grownBy W' (some B)) (h : W.heap[k]? = some o) (hk : k ≠ B) : W'.heap[k]? = some o :=
  (hg.block k (Array.getElem?_eq_some_iff.1 h).1 (fun e => hk (Option.some.inj e))).trans h
/-- How a round's body may be left. -/
def roundEnds (Kp : World → World → Prop) (I : List α → World → Prop) (Ix : Code → List α → World → Prop) (xs : List α) (W : World) : Exit → Act → World → Prop
  | .normal, _, W' => KeepsOthers W W' ∧ Kp W W' ∧ I xs W'
  | .ret, _, W' => KeepsOthers W W' ∧ Ix .ret xs W'
  | .exit id, _, W' => KeepsOthers W W' ∧ Ix (.exit id) xs W'
  | .goto t, _, W' => KeepsOthers W W' ∧ Ix (.goto t) xs W'
  | _, _, _ => False
theorem range_iter {g : Operand} {ps : Array Tmp} {assign body : Code} {Q : Exit → Act → World → Prop} {a : Act} {w : World}
    (hro : F.round = none) (h1 : 1 ≤ n) {gf : Nat} {lb : Array Value} (hg : a.eval g = .func (.func gf) #[] lb) (hFg : F.fn gf) (eg : ∀ args w, (callFunc gf args).run P w = .ok (.enter gf args) w)
    {encs : α → Array Value} {Kp : World → World → Prop} {Pre S : List α → Prop} {N B : Nat} (hit : Iter F (n - 1) P gf lb encs Kp Pre S N B w) (hB : B < w.heap.size)
    (hKt : ∀ {X Y Z : World}, Kp X Y → Kp Y Z → Kp X Z) (hKp : ∀ (W : World) (l : Nat) (o : Obj), w.heap.size ≤ l → Kp W (W.putObj l o)) (hKa : ∀ (W : World) (o : Obj), w.heap.size ≤ W.heap.size → Kp W (W.alloc o)) (hps : ∀ x, (encs x).size = ps.size)
    (I : List α → World → Prop) (Ix : Code → List α → World → Prop) (hI : OwnFrom w.heap.size I) (hIx : ∀ c, OwnFrom w.heap.size (Ix c)) (hIB : Bides B I) (hIxB : ∀ c, Bides B (Ix c)) (h0 : I [] w)
    (hN : ∀ pre W, Pre pre → I pre W → pre.length ≤ N)
    (hround : ∀ (l : Nat) (pre : List α) (x : α) (W : World), w.heap.size ≤ W.heap.size → Pre (pre ++ [x]) → I pre W →
      assign.wpIn (F.inRound l) (n - 1 - 1) P (Exit.then (fun a' W' => KeepsOthers W W' ∧ Kp W W' ∧ I pre W' ∧ ∃ Ax : World → Prop, OwnFrom w.heap.size (fun (_ : Unit) Y => Ax Y) ∧ Ax W' ∧
        ∀ W2, w.heap.size < W2.heap.size → I pre W2 → Ax W2 → body.wpIn (F.inRound l) (n - 1 - 1) P (roundEnds Kp I Ix (pre ++ [x]) W2) a' W2) (fun _ _ _ => False)) { tmps := (ps.zip (encs x)).foldl (fun t (p, v) => t.setIfInBounds p v) a.tmps, defers := [] } W)
    (hdone : ∀ (D : Nat) (xs : List α) (W : World), w.heap.size ≤ D → S xs → I xs W → W.heap[D]? = some (.deferred (some [])) → Q .normal { a with defers := { target := .collected D, args := #[] } :: a.defers } W)
    (hstop : ∀ (D : Nat) (c : Code) (pre : List α) (W : World), w.heap.size ≤ D → Pre pre → Ix c pre W → W.heap[D]? = some (.deferred (some [])) → c.wpIn F n P Q { a with defers := { target := .collected D, args := #[] } :: a.defers } W) :
    (Code.rangeFunc g ps assign body).wpIn F n P Q a w := by
  refine wpIn_rangeFunc fun fn hfn => ?_
  rw [hro]
  let rc : LoopState → Option Code → Loop := fun st pe => { state := st, pending := pe, fn, tmps := a.tmps, params := ps, assign, body, defers := w.heap.size }
  let D := w.heap.size
  let bk : World → LoopState → Option Code → Prop := fun W st pe => W.heap[D + 1]? = some (.loop (rc st pe)) ∧ W.heap[D]? = some (.deferred (some []))
  have bidesBk : ∀ (W W' : World) st pe, bk W st pe → W.grownBy W' (some B) → bk W' st pe := fun W W' st pe h hg' =>
    ⟨grown_far hg' h.1 (by show D + 1 ≠ B; have : B < D := hB; omega), grown_far hg' h.2 (by show D ≠ B; have : B < D := hB; omega)⟩
  let W1 : World := (w.alloc (.deferred (some []))).alloc (.loop (rc .ready none))
  have first : bk W1 .ready none := by
    refine ⟨?_, ?_⟩
    · have := World.alloc_heap_new (w.alloc (.deferred (some []))) (.loop (rc .ready none)); rwa [World.size_alloc] at this
    · exact (Below.heap_alloc _ _ _ (by simp [D])).trans (World.alloc_heap_new w _)
  refine ⟨D + 1, [{ target := .collected D, args := #[] }], W1, { target := .fn (.func gf) lb, args := #[.func (.yield (D + 1)) #[] #[]] }, W1, gf,
    #[.func (.yield (D + 1)) #[] #[]] ++ lb, W1, run_enterLoop_outer _ _ _ _ _, ?_, ?_, ?_, fun _ => h1, ?_⟩
  · simp only [resolve, hg]; simp [go_sem]
  · intro f' hf'; simp [Target.leads] at hf'; subst hf'; exact hFg
  · simp [invoke, go_sem, eg]
  · refine (hit (D + 1) (fun pre W => I pre W ∧ bk W .ready none) (fun pre W => ∃ c, Ix c pre W ∧ bk W .done (some c)) _
      (hKt (hKa w _ (Nat.le_refl _)) (hKa _ _ (by simp)))
      (fun s X Y h hg' => ⟨hIB s X Y h.1 hg', bidesBk X Y _ _ h.2 hg'⟩)
      (fun s X Y h hg' => by obtain ⟨c, hc, hb⟩ := h; exact ⟨c, hIxB c s X Y hc hg', bidesBk X Y _ _ hb hg'⟩)
      ?_ (fun pre W hp h => hN pre W hp h.1) ⟨hI.alloc _ (hI.alloc _ h0), first⟩).mono ?_
    · rintro pre x W hpre ⟨hi, hl, hk⟩
      have hlt : D + 1 < W.heap.size := (Array.getElem?_eq_some_iff.1 hl).1
      refine ⟨fn, _, assign, body, run_yield (P := P) (args := encs x) hl (hps x), roundIn_of_wpIn hfn (wpIn_mono (hround (D + 1) pre x W (by show D ≤ _; omega) hpre hi) ?_)⟩
      rintro e a' Wa hp
      cases e with
      | exit id => exact hp.elim
      | goto t => exact hp.elim
      | ret => exact hp.elim
      | panic ch => exact hp.elim
      | outgrown => exact hp.elim
      | normal =>
      obtain ⟨ko, kp, hia, Ax, hAx, hax, hbody⟩ := hp
      have hl' := ko.same _ _ hl rfl
      have hk' := ko.same _ _ hk rfl
      have hlt' : D + 1 < Wa.heap.size := (Array.getElem?_eq_some_iff.1 hl').1
      refine ⟨_, run_beginRound hl' rfl, ?_⟩
      have hl2 : (Wa.putObj (D + 1) (.loop { rc .ready none with state := .busy })).heap[D + 1]? = some (.loop { rc .ready none with state := .busy }) := World.putObj_heap_same hlt'
      have hk2 : (Wa.putObj (D + 1) (.loop { rc .ready none with state := .busy })).heap[D]? = some (.deferred (some [])) := (World.putObj_heap_other (by omega)).trans hk'
      refine wpIn_mono (hbody _ (by show D < _; simp; omega) (hI.putObj _ hia (by show D ≤ _; omega) hl' rfl) (hAx.putObj (s := ()) _ hax (by show D ≤ _; omega) hl' rfl)) ?_
      have fin : ∀ (j : Option Code) (W3 : World), KeepsOthers (Wa.putObj (D + 1) (.loop { rc .ready none with state := .busy })) W3 →
          (Instr.endRound (D + 1) j).run P W3 = .ok (.bool j.isNone) (W3.putObj (D + 1) (.loop (rc (if j.isNone then .ready else .done) j))) ∧ (∃ r, W3.heap[D + 1]? = some (.loop r)) ∧
          bk (W3.putObj (D + 1) (.loop (rc (if j.isNone then .ready else .done) j))) (if j.isNone then .ready else .done) j := fun j W3 hk3 => by
        have h3 := hk3.same _ _ hl2 rfl
        exact ⟨run_endRound (P := P) j h3, ⟨_, h3⟩, World.putObj_heap_same (Array.getElem?_eq_some_iff.1 h3).1, (World.putObj_heap_other (by omega)).trans (hk3.same _ _ hk2 rfl)⟩
      have leave : ∀ (c : Code) (W3 : World), KeepsOthers (Wa.putObj (D + 1) (.loop { rc .ready none with state := .busy })) W3 → Ix c (pre ++ [x]) W3 →
          ∃ v w', (Instr.endRound (D + 1) (some c)).run P W3 = .ok v w' ∧ ((Ending.returned v = .returned (.bool true) ∧ (I (pre ++ [x]) w' ∧ bk w' .ready none) ∧ Kp W w') ∨ (Ending.returned v = .returned (.bool false) ∧ ∃ c, Ix c (pre ++ [x]) w' ∧ bk w' .done (some c))) := fun c W3 hk3 hi3 => by
        obtain ⟨hr, ⟨r, h3⟩, hb⟩ := fin (some c) W3 hk3
        exact ⟨_, _, hr, .inr ⟨rfl, c, (hIx c).putObj _ hi3 (by show D ≤ _; omega) h3 rfl, hb⟩⟩
      rintro e a3 W3 hp
      cases e with
      | normal =>
        obtain ⟨hk3, hkp3, hi3⟩ := hp
        obtain ⟨hr, ⟨r, h3⟩, hb⟩ := fin none W3 hk3
        exact ⟨_, _, hr, .inl ⟨rfl, ⟨hI.putObj _ hi3 (by show D ≤ _; omega) h3 rfl, hb⟩, hKt kp (hKt (hKp _ _ _ (by show D ≤ _; omega)) (hKt hkp3 (hKp _ _ _ (by show D ≤ _; omega))))⟩⟩
      | ret => exact leave _ W3 hp.1 hp.2
      | exit id => exact leave _ W3 hp.1 hp.2
      | goto t => exact leave _ W3 hp.1 hp.2
      | panic ch => exact hp.elim
      | outgrown => exact hp.elim
    · rintro e W2 ⟨⟨v, rfl⟩, (⟨xs, hS, hi, hl, hk⟩ | ⟨pre, hp, c, hi, hl, hk⟩)⟩
      · exact ⟨none, _, run_endLoop (P := P) hl (by simp [rc]), hdone D xs _ (Nat.le_refl _) hS (hI.putObj _ hi (by show D ≤ _; omega) hl rfl) ((World.putObj_heap_other (by omega)).trans hk)⟩
      · exact ⟨some c, _, run_endLoop (P := P) hl (by simp [rc]), hstop D c pre _ (Nat.le_refl _) hp ((hIx c).putObj _ hi (by show D ≤ _; omega) hl rfl) ((World.putObj_heap_other (by omega)).trans hk)⟩
theorem Ext.keeps {W W' : World} (h : Ext W W') : KeepsOthers W W' := ⟨h.size, fun k o hk _ => by
  have hlt := (Array.getElem?_eq_some_iff.1 hk).1
  rw [h.block k hlt]; exact hk⟩
end
end Go.Proofs.YtkegefnpmijfiaaGreat
namespace Go.Proofs.YtkegefnpmijfiaaGreat
open Go.RowKit Go.Shelf
/-- Blocks that were there lie as they lay. -/
def OldAs (w0 W : World) : Prop := ∀ k, k < w0.heap.size → W.heap[k]? = w0.heap[k]?
theorem OldAs.of_ext {w W : World} (h : Ext w W) : OldAs w W := fun k hk => h.block k hk
/-- The iterator's own block, and all that was there ahead, lie as they lay. -/
def KeptD (w0 : World) (B : Nat) (W W' : World) : Prop := W.heap.size ≤ W'.heap.size ∧ W'.heap[B]? = W.heap[B]? ∧ ∀ k, k < w0.heap.size → W'.heap[k]? = W.heap[k]?
theorem Ext.grow {W W' : World} (h : Ext W W') (r : Option Nat) : W.grownBy W' r := ⟨h.os, h.tape, h.output, h.size, fun k hk _ => h.block k hk⟩
theorem grow_at (W : World) (B o : Nat) (v : Value) : W.grownBy (W.setCell ⟨B, o, none⟩ v) (some B) :=
  ⟨rfl, rfl, rfl, (KeepsWalks.setCell W _ v).size, fun k _ hk => Below.heap_setCell _ _ _ k (fun e => hk (by rw [e]))⟩
theorem keeps_drew (W : World) : KeepsOthers W W.drew := ⟨Nat.le_refl _, fun _ _ h _ => h⟩
theorem ends_exit {α : Type} {Kp : World → World → Prop} {I : List α → World → Prop} {Ix : Code → List α → World → Prop} {xs : List α} {W W' : World} {a : Act} {id : Nat} (h : KeepsOthers W W') (k : Ix (.exit id) xs W') : roundEnds Kp I Ix xs W (.exit id) a W' := ⟨h, k⟩
theorem ends_normal {α : Type} {Kp : World → World → Prop} {I : List α → World → Prop} {Ix : Code → List α → World → Prop} {xs : List α} {W W' : World} {a : Act} (h : KeepsOthers W W') (k : Kp W W') (l : I xs W') : roundEnds Kp I Ix xs W .normal a W' := ⟨h, k, l⟩
theorem KeptD.trans {w : World} {B : Nat} {X Y Z : World} (h : KeptD w B X Y) (k : KeptD w B Y Z) : KeptD w B X Z :=
  ⟨Nat.le_trans h.1 k.1, k.2.1.trans h.2.1, fun i hi => (k.2.2 i hi).trans (h.2.2 i hi)⟩
theorem KeptD.put {w : World} {B l : Nat} (W : World) {o : Obj} (hB : B ≠ l) (hl : w.heap.size ≤ l) : KeptD w B W (W.putObj l o) :=
  ⟨by simp, World.putObj_heap_other hB, fun k hk => World.putObj_heap_other (by omega)⟩
theorem KeptD.ext {w : World} {B : Nat} {W W' : World} (x : Ext W W') (hB : B < W.heap.size) (hw : w.heap.size ≤ W.heap.size) : KeptD w B W W' :=
  ⟨x.size, x.block B hB, fun k hk => x.block k (by omega)⟩
theorem KeptD.set {w : World} {B g o : Nat} (W : World) {v : Value} (hB : B ≠ g) (hg : w.heap.size ≤ g) : KeptD w B W (W.setCell ⟨g, o, none⟩ v) :=
  ⟨(KeepsWalks.setCell W _ v).size, Below.heap_setCell W _ v B hB, fun k hk => Below.heap_setCell W _ v k (fun e => by have : k = g := e; omega)⟩
theorem OldAs.lt {w0 w : World} (h : OldAs w0 w) {k : Nat} (hk : k < w0.heap.size) : k < w.heap.size := by
  rcases Nat.lt_or_ge k w.heap.size with hlt | hge
  · exact hlt
  · have := h k hk
    rw [Array.getElem?_eq_none hge, Array.getElem?_eq_getElem hk] at this
    cases this
theorem OldAs.le {w0 w : World} (h : OldAs w0 w) : w0.heap.size ≤ w.heap.size := by
  rcases Nat.eq_zero_or_pos w0.heap.size with h0 | h0
  · omega
  · have := h.lt (k := w0.heap.size - 1) (by omega); omega
theorem OldAs.ext {w0 w W : World} (h : OldAs w0 w) (x : Ext w W) : OldAs w0 W := fun k hk => (x.block k (OldAs.lt h hk)).trans (h k hk)
end Go.Proofs.YtkegefnpmijfiaaGreat
namespace Go.Proofs.YtkegefnpmijfiaaGreat
open Go.RowKit Go.Shelf
section
variable {F : Fence} {n : Nat} {P : Program} {α : Type}
end
end Go.Proofs.YtkegefnpmijfiaaGreat
namespace Go.Proofs.YtkegefnpmijfiaaGreat
open Go.RowKit Go.Shelf
section
variable {P : Program} {ops : Array Oper} {Q : Exit → Act → World → Prop} {l n : Nat}
/-- No statement that defers. -/
def noDefer (ops : Array Oper) : Bool := ops.toList.all fun o => match o.op with | .defer _ => false | _ => true
theorem wpOpIn_round {i : Nat} {K K' : Act → World → Prop} {a : Act} {w : World} (hd : noDefer ops = true) (hQ : ¬ LetsOut Q) (hK : ∀ a w, K a w → K' a w) (h : wpOp P ops Q i K a w) : wpOpIn (Fence.wide.inRound l) n P ops Q i K' a w := by
  unfold wpOp at h
  unfold wpOpIn
  cases ho : ops[i]? with
  | none => simp only [ho] at h ⊢; exact hK _ _ h
  | some o =>
    simp only [ho] at h ⊢
    split
    · rename_i hw
      simp only [hw, if_true] at h
      rcases h with h | ⟨_, h⟩
      · refine ⟨fun _ _ => trivial, ?_⟩
        have hn : ∀ c, o.op ≠ .defer c := fun c e => by
          have := List.all_eq_true.1 hd o (Array.mem_toList_iff.2 (Array.mem_of_getElem? ho))
          simp [e] at this
        have e : o.semAt (Fence.wide.inRound l).round a.eval = execOp a.eval o := Oper.semAt_some l _ o hn
        rw [e]
        unfold Oper.wp at h
        generalize (execOp a.eval o).run P w = r at *
        cases r with
        | ok x w' =>
          cases x with
          | value v => exact hK _ _ h
          | skip => exact hK _ _ h
          | defer d => exact hK _ _ h
          | enter f args => exact ⟨fun h => (by cases h), callsIn_wide.2 (Calls.mono h (fun e w'' he => by cases e <;> first | exact hK _ _ he | exact he))⟩
          | row f args => exact ⟨fun h => (by cases h), fun c cs _ => let ⟨v, w', r, s⟩ := h c cs; ⟨v, w', hK _ _ r, stepsIn_wide.2 s⟩⟩
          | _ => exact h.elim
        | halt x w' => cases x <;> first | exact h | exact h.elim
      · exact absurd h hQ
    · rename_i hw
      simp only [hw] at h
      exact ⟨fun _ _ => trivial, hK _ _ (by simpa using h)⟩
theorem wpAnyIn_round {md : Region.Mode} (hd : noDefer ops = true) (hQ : ¬ LetsOut Q) : ∀ (fuel : Nat) (listed : Array Bool) (a : Act) (w : World), wpAny P md ops Q fuel listed a w → wpAnyIn (Fence.wide.inRound l) n P md ops Q fuel listed a w
  | 0, _, _, _, h => h
  | fuel + 1, _, _, _, h => ⟨h.1, fun i hi => wpOpIn_round hd hQ (fun a w h => wpAnyIn_round hd hQ fuel _ a w h) (h.2 i hi)⟩
theorem region_round {id : Nat} {a : Act} {w : World} (S : World → Prop) (hm : P.follows .mixedOrders = true) (hd : noDefer ops = true) (hQ : ¬ LetsOut Q) (hS : S w.drew)
    (h : S w.drew → wpAnyH P .any ops Q S ops.size (Array.replicate ops.size false) a w.drew) : (Code.region id ops true).wpIn (Fence.wide.inRound l) n P Q a w :=
  wpIn_region_any hm (wpAnyIn_round hd hQ _ _ _ _ (wpAny_of_held _ _ _ _ (h hS)))
/-- Left by its end alone. -/
def EndOnly (Q : Exit → Act → World → Prop) : Exit → Act → World → Prop
  | .normal, a, w => Q .normal a w
  | _, _, _ => False
theorem EndOnly.mk {a : Act} {w : World} (h : Q .normal a w) : EndOnly Q .normal a w := h
theorem wp_endOnly {c : Code} {a : Act} {w : World} (h : c.wp P (EndOnly Q) a w) : c.wp P Q a w :=
  Code.wp_mono (fun e a w h => by cases e <;> first | exact h | exact h.elim) h
end
end Go.Proofs.YtkegefnpmijfiaaGreat
namespace Go.Proofs.YtkegefnpmijfiaaGreat
open Go.RowKit Go.Shelf
section
variable {F : Fence} {n : Nat} {P : Program} {α : Type}
end
end Go.Proofs.YtkegefnpmijfiaaGreat
