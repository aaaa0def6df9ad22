/- def.rows: the table of kinds; the functions that tell a field's place. -/
import Derived.Test.YtgokenbojppnhaaDoorDefNum2
import Derived.Test.YtgokenbojppnhaaDoorGb
namespace Go.Proofs.YtgokenbojppnhaaDoor
open Go.RowKit
/-- The function that tells a field's place. -/
def fieldFn : Nat → Nat
  | 1 => 72
  | 2 => 73
  | 3 => 74
  | 4 => 75
  | 5 => 76
  | 6 => 77
  | _ => 78
def fnV (i : Nat) : Value := .func (.func (fieldFn i)) #[] #[]
def lowsK (k : Nat) : List Int := (List.range (placesK k).length).map (lowK k)
def highsK (k : Nat) : List Int := (placesK k).map (fun _ => highK k)
/-- A row of the table. -/
structure TabRow (base : Nat) (w : World) (B o k : Nat) : Prop where
  kind : w.cell? ⟨B, o, none⟩ = some (.int .i64 k)
  word : w.cell? ⟨B, o + 1, none⟩ = some (.string (ba (nameB k)))
  rest : ∃ va vl vh, w.cell? ⟨B, o + 2, none⟩ = some va ∧ w.cell? ⟨B, o + 3, none⟩ = some vl ∧ w.cell? ⟨B, o + 4, none⟩ = some vh ∧ RowV w va ((placesK k).map fnV) ∧ Row .i64 w vl (lowsK k) ∧ Row .i64 w vh (highsK k) ∧ ∀ q, va.ownBlock = some q ∨ vl.ownBlock = some q ∨ vh.ownBlock = some q → base ≤ q
theorem TabRow.ext {base : Nat} {w w' : World} {B o k : Nat} (h : TabRow base w B o k) (x : Ext w w') : TabRow base w' B o k := by
  obtain ⟨va, vl, vh, h1, h2, h3, h4, h5, h6, h7⟩ := h.rest
  exact ⟨x.cell h.kind, x.cell h.word, va, vl, vh, x.cell h1, x.cell h2, x.cell h3, h4.ext x, h5.ext x, h6.ext x, h7⟩
def TabAt (base : Nat) (w : World) (B : Nat) : Prop := ∀ i, i < 12 → TabRow base w B (i * 5) (kindsT.getD i 0)
theorem TabAt.ext {base : Nat} {w w' : World} {B : Nat} (h : TabAt base w B) (x : Ext w w') : TabAt base w' B := fun i hi => (h i hi).ext x
theorem RowV.nil (w : World) : RowV w (.slice none 0 0) [] := ⟨none, 0, rfl, by simp, by simp [maxLen], fun h => absurd rfl h⟩
theorem RowV.blk {w : World} {B : Nat} {t : TypeId} {vs : List Value} {n : Nat} (h : Blk w B t vs.toArray) (hn : n = vs.length) (hm : n ≤ 1000) : RowV w (.slice (some ⟨B, 0, none⟩) n n) vs := by
  subst hn
  refine ⟨_, _, rfl, Nat.le_refl _, by unfold maxLen; omega, fun _ => ⟨B, 0, rfl, fun i hi => ?_⟩⟩
  rw [Nat.zero_add, h.cell, List.getElem?_toArray]
theorem Row.blk' {w : World} {B : Nat} {t : TypeId} {ds : List Int} {n : Nat} (h : Blk w B t (ints ds)) (hn : n = ds.length) (hm : n ≤ 1000) : Row .i64 w (.slice (some ⟨B, 0, none⟩) n n) ds :=
  Row.of_blk h hn.symm (by unfold maxLen; omega)
set_option maxHeartbeats 4000000 in
set_option maxRecDepth 100000 in
theorem rows_any (w : World) : Calls Tryd.prog 65 #[] w fun e w' => ∃ B, e = .returned (.slice (some ⟨B, 0, none⟩) 12 12) ∧ Ext w w' ∧ w.heap.size ≤ B ∧ TabAt w.heap.size w' B := by
  go_enter Tryd.func65, Tryd.ntmps65
  go_wp2
  go_ret
  refine ⟨_, rfl, (by repeat (first | with_reducible exact Ext.refl _ | with_reducible apply Ext.drew | with_reducible apply Ext.drewN | with_reducible apply Ext.alloc | ((with_reducible refine Ext.setCell ?_ ?_ _); rotate_left; focus (first | (simp; done) | (simp; omega) | omega)) | with_reducible assumption)), by omega, ?_⟩
  intro i hi
  have hh : i = 0 ∨ i = 1 ∨ i = 2 ∨ i = 3 ∨ i = 4 ∨ i = 5 ∨ i = 6 ∨ i = 7 ∨ i = 8 ∨ i = 9 ∨ i = 10 ∨ i = 11 := by omega
  clear hi
  rcases hh with rfl | rfl | rfl | rfl | rfl | rfl | rfl | rfl | rfl | rfl | rfl | rfl
  all_goals
    refine ⟨by simp [go_sem, kindsT], by simp [go_sem, kindsT, nameB, ba], _, _, _, by simp [go_sem]; rfl, by simp [go_sem]; rfl, by simp [go_sem]; rfl, ?_, ?_, ?_, by intro q h; simp [Value.ownBlock] at h; try omega⟩
    · first
        | exact RowV.nil _
        | (refine ⟨_, _, rfl, by simp [kindsT, placesK], by simp [maxLen], fun _ => ⟨_, _, rfl, fun j hj => ?_⟩⟩
           have hj2 : j = 0 ∨ j = 1 ∨ j = 2 ∨ j = 3 ∨ j = 4 := by
             have hj3 : j < 5 := Nat.lt_of_lt_of_le hj (by decide)
             omega
           rcases hj2 with rfl | rfl | rfl | rfl | rfl <;> first | exact absurd hj (by decide) | simp [go_sem, kindsT, placesK, fnV, fieldFn])
    all_goals
      first
        | exact Row.nil _ _
        | (refine ⟨_, _, rfl, by simp [kindsT, placesK, lowsK, highsK], by simp [maxLen], fun _ => ⟨_, _, rfl, fun j hj => ?_⟩⟩
           have hj2 : j = 0 ∨ j = 1 ∨ j = 2 ∨ j = 3 ∨ j = 4 := by
             have hj3 : j < 5 := Nat.lt_of_lt_of_le hj (by decide)
             omega
           rcases hj2 with rfl | rfl | rfl | rfl | rfl <;> first | exact absurd hj (by decide) | simp [go_sem, kindsT, placesK, lowsK, highsK, lowK, highK])
end Go.Proofs.YtgokenbojppnhaaDoor
