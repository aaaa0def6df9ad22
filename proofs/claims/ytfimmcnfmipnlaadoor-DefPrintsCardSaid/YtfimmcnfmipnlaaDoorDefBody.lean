/- (*def.reader).body: what it reads; the reader as a world holds it. -/
import Derived.Test.YtfimmcnfmipnlaaDoorLays
namespace Go.Proofs.YtfimmcnfmipnlaaDoor
open Go.RowKit
def endB : Bs := [101, 110, 100]
def lossB : Bs := [108, 111, 115, 115]
def LayF.kind0 (k : Int) : LayF := { LayF.zero with kind := k }
/-- Layers out of lines: those that were read, or none; the line at which reading stands; how many layers there may be yet. -/
def bodyP (LL : List (List Bs)) : Nat → Nat → Nat → Nat → List Lay → Option (List Lay) × Nat × Nat
  | 0, _, i, left, _ => (none, i, left)
  | fu + 1, deep, i, left, acc =>
    match LL[i]? with
    | none => (some acc, i, left)
    | some [] => (none, i, left)
    | some (x :: ws) =>
      if x = endB ∨ x = lossB then (some acc, i, left) else
      if left = 0 then (none, i, left) else
      if x :: ws ≠ [nameB 13] then
        match oneS (x :: ws) with
        | none => (none, i, left - 1)
        | some f => bodyP LL fu deep (i + 1) (left - 1) (acc ++ [.mk f []])
      else if deep = 4 then (none, i, left - 1) else
        match bodyP LL fu (deep + 1) (i + 1) (left - 1) [] with
        | (none, i', left') => (none, i', left')
        | (some b, i', left') => if LL[i']? = some [endB] then bodyP LL fu deep (i' + 1) left' (acc ++ [.mk (LayF.kind0 13) b]) else (none, i', left')
theorem bodyP_at (LL : List (List Bs)) : ∀ (fu deep i left : Nat) (acc : List Lay), i ≤ (bodyP LL fu deep i left acc).2.1 ∧ (bodyP LL fu deep i left acc).2.2 ≤ left ∧ (i ≤ LL.length → (bodyP LL fu deep i left acc).2.1 ≤ LL.length)
  | 0, _, i, left, _ => by simp [bodyP]
  | fu + 1, deep, i, left, acc => by
    unfold bodyP
    split
    · simp
    · simp
    · rename_i x ws hx
      have hi : i < LL.length := (List.getElem?_eq_some_iff.1 hx).1
      split
      · simp
      split
      · simp
      split
      · split
        · simp <;> omega
        · rename_i f hf
          have := bodyP_at LL fu deep (i + 1) (left - 1) (acc ++ [.mk f []])
          omega
      split
      · simp <;> omega
      have a := bodyP_at LL fu (deep + 1) (i + 1) (left - 1) []
      split
      · rename_i i' l' h; rw [h] at a; simp at a ⊢; omega
      · rename_i b' i' l' h
        rw [h] at a
        split
        · rename_i h2
          have hi2 := (List.getElem?_eq_some_iff.1 h2).1
          have := bodyP_at LL fu deep (i' + 1) l' (acc ++ [.mk (LayF.kind0 13) b'])
          simp at a ⊢
          omega
        · simp at a ⊢; omega
/-- Lines of words, in a world: nothing of them lies in block R. -/
def LinesAt (R : Nat) (w : World) (v : Value) (LL : List (List Bs)) : Prop :=
  ∃ a cap, v = .slice a LL.length cap ∧ LL.length ≤ cap ∧ cap ≤ maxLen ∧ (LL ≠ [] → ∃ b o, a = some ⟨b, o, none⟩ ∧ b ≠ R ∧ ∀ i (h : i < LL.length), ∃ a' c', w.cell? ⟨b, o + i, none⟩ = some (.slice a' LL[i].length c') ∧ RowV w (.slice a' LL[i].length c') (strs LL[i]) ∧ (∀ q, a' = some q → q.block ≠ R))
theorem RowV.gb {w W : World} {R : Nat} {v : Value} {vs : List Value} (h : RowV w v vs) (hg : GB w W R) (ho : ∀ q, v.ownBlock = some q → q ≠ R) : RowV W v vs := by
  obtain ⟨a, cap, rfl, h1, h2, h3⟩ := h
  refine ⟨a, cap, rfl, h1, h2, fun hn => ?_⟩
  obtain ⟨b, o, rfl, hc⟩ := h3 hn
  refine ⟨b, o, rfl, fun i hi => ?_⟩
  have e := hc i hi
  rw [List.getElem?_eq_getElem hi] at e ⊢
  exact hg.cell e (ho b rfl)
theorem LinesAt.gb {R : Nat} {w W : World} {v : Value} {LL : List (List Bs)} (h : LinesAt R w v LL) (hg : GB w W R) : LinesAt R W v LL := by
  obtain ⟨a, cap, rfl, h1, h2, h3⟩ := h
  refine ⟨a, cap, rfl, h1, h2, fun hn => ?_⟩
  obtain ⟨b, o, rfl, hb, hc⟩ := h3 hn
  refine ⟨b, o, rfl, hb, fun i hi => ?_⟩
  obtain ⟨a', c', h4, h5, h6⟩ := hc i hi
  exact ⟨a', c', hg.cell h4 hb, h5.gb hg (fun q e => by cases a' with | none => cases e | some q' => cases e; exact h6 _ rfl), h6⟩
/-- The reader. -/
structure ReadAt (w : World) (R : Nat) (v : Value) (LL : List (List Bs)) (i left : Nat) : Prop where
  blk : Blk w R 71 #[v, .int .i64 i, .int .i64 left]
  lines : LinesAt R w v LL
theorem ReadAt.ext {w W : World} {R : Nat} {v : Value} {LL : List (List Bs)} {i left : Nat} (h : ReadAt w R v LL i left) (x : Ext w W) : ReadAt W R v LL i left :=
  ⟨h.blk.ext x, h.lines.gb ((GB.refl _ _).ext x)⟩
theorem ReadAt.at {w : World} {R : Nat} {v : Value} {LL : List (List Bs)} {i left : Nat} (h : ReadAt w R v LL i left) (j : Nat) : ReadAt (w.setCell ⟨R, 1, none⟩ (.int .i64 j)) R v LL j left :=
  ⟨h.blk.set_ 1 _, h.lines.gb ((GB.refl _ _).set _ _)⟩
theorem ReadAt.left {w : World} {R : Nat} {v : Value} {LL : List (List Bs)} {i left : Nat} (h : ReadAt w R v LL i left) (j : Nat) : ReadAt (w.setCell ⟨R, 2, none⟩ (.int .i64 j)) R v LL i j :=
  ⟨h.blk.set_ 2 _, h.lines.gb ((GB.refl _ _).set _ _)⟩
theorem ReadAt.cells {w : World} {R : Nat} {v : Value} {LL : List (List Bs)} {i left : Nat} (h : ReadAt w R v LL i left) : w.cell? ⟨R, 0, none⟩ = some v ∧ w.cell? ⟨R, 1, none⟩ = some (.int .i64 i) ∧ w.cell? ⟨R, 2, none⟩ = some (.int .i64 left) ∧ w.frozen? ⟨R, 1, none⟩ = false ∧ w.frozen? ⟨R, 2, none⟩ = false ∧ R < w.heap.size :=
  ⟨h.blk.cell 0, h.blk.cell 1, h.blk.cell 2, h.blk.frozen 1, h.blk.frozen 2, h.blk.lt⟩
set_option maxHeartbeats 1000000 in
theorem more_q {R : Nat} {v : Value} {LL : List (List Bs)} {i left : Nat} {w : World} (h : ReadAt w R v LL i left) :
    Calls Tryd.prog 53 #[.pointer (some ⟨R, 0, none⟩)] w fun e w' => e = .returned (.bool (decide (i < LL.length))) ∧ ∃ n, w' = w.drewN n := by
  obtain ⟨c0, c1, -, -, -, zR⟩ := h.cells
  obtain ⟨a, cap, rfl, h1, h2, -⟩ := h.lines
  clear h
  go_enter Tryd.func53, Tryd.ntmps53
  go_wp2_with fail
  go_quiet (fail)
  go_wp2
  go_ret
  exact ⟨rfl, _, rfl⟩
theorem more_any {R : Nat} {v : Value} {LL : List (List Bs)} {i left : Nat} {w : World} (h : ReadAt w R v LL i left) :
    Calls Tryd.prog 53 #[.pointer (some ⟨R, 0, none⟩)] w fun e w' => e = .returned (.bool (decide (i < LL.length))) ∧ Ext w w' :=
  (more_q h).mono (by rintro e w' ⟨h1, n, rfl⟩; exact ⟨h1, (Ext.refl w).drewN n⟩)
theorem GB.grown {w W w1 : World} {R : Nat} {row : Option Nat} (h : GB w W R) (hg : W.grownBy w1 row) (hr : ∀ k, row = some k → w.heap.size ≤ k) : GB w w1 R :=
  ⟨hg.os.trans h.os, hg.tape.trans h.tape, hg.output.trans h.output, Nat.le_trans h.size hg.size, fun i hi hne =>
    (hg.block i (Nat.lt_of_lt_of_le hi h.size) (fun e => by have := hr i e.symm; omega)).trans (h.block i hi hne)⟩
/-- What body tells, and leaves behind. -/
structure BodyRes (w w' : World) (R : Nat) (v : Value) (LL : List (List Bs)) (e : Nat) (res : Option (List Lay) × Nat × Nat) (lv : Value) (ok : Bool) : Prop where
  gb : GB w w' R
  rd : ReadAt w' R v LL res.2.1 res.2.2
  no : res.1 = none → ok = false ∧ lv = .slice none 0 0
  yes : ∀ L, res.1 = some L → ok = true ∧ MyLays (fun b => w.heap.size ≤ b ∧ b < w'.heap.size) w' (e + 1) lv L
def BodyOk (e deep : Nat) : Prop := ∀ {R : Nat} {v : Value} {LL : List (List Bs)} {i left : Nat} {w : World}, ReadAt w R v LL i left → LL.length ≤ 100000 → (∀ L ∈ LL, ∀ x ∈ L, x.length ≤ 100000) → left ≤ 64 → i ≤ LL.length → ∀ fu, LL.length - i + 1 ≤ fu →
  Calls Tryd.prog 55 #[.pointer (some ⟨R, 0, none⟩), .int .i64 deep] w fun e' w' => ∃ lv ok, e' = .returned (.tuple #[lv, .bool ok]) ∧ BodyRes w w' R v LL e (bodyP LL fu deep i left []) lv ok
end Go.Proofs.YtfimmcnfmipnlaaDoor
