/- def.text, Good, Print. -/
import Derived.Test.YtgokenbojppnhaaDoorDefGood
import Derived.Test.YtgokenbojppnhaaDoorShelf
import Derived.Lib.AppendIntMem
import Derived.Lib.SmallJoins
import Derived.Laws.Concat
namespace Go.Proofs.YtgokenbojppnhaaDoor
open Go.RowKit
/-- The library's table of powers of 10, as it was laid. -/
def TabW (w : World) : Prop := Lib.TabIs Tryd.prog w "internal/strconv.uint64pow10" .u64 Lib.pow10Tab
theorem TabW.ext {w w' : World} (h : TabW w) (x : Ext w w') : TabW w' :=
  Lib.tabBelow_of_tabIs h _ x
theorem itoa_any (x : Int) (h0 : 0 ≤ x) (h1 : x ≤ 9999) {w : World} (ht : TabW w) : Calls Tryd.prog 55 #[.int .i64 x] w fun e w' => e = .returned (.string (ba (Lib.itoa x))) ∧ Ext w w' :=
  (Tryd.strconv_Itoa x (by omega) (by omega) w ht).mono fun e w' h => by
    obtain ⟨rfl, k, os, rfl⟩ := h
    exact ⟨rfl, Lib.below_grow _ w (Nat.le_refl _) k os⟩
theorem add_ba {A B C : ByteArray} (h : A ++ B = C) (hs : A.size + B.size ≤ 1000000) : ∀ u : World, (Op.stringOp .add A B).run Tryd.prog u = .ok (.string C) u := fun u => by
  rw [run_string_add_sum u A B (by omega), h]
theorem ba_app (a b : Bs) : ba a ++ ba b = ba (a ++ b) := by
  unfold ba
  exact ByteArray.mk_append_mk a b
theorem dec_len : ∀ (k n : Nat), n < 10 ^ (k + 1) → (Lib.decDigits n).length ≤ k + 1
  | 0, n, h => by rw [Lib.decDigits, dif_pos (by omega)]; simp
  | k + 1, n, h => by
    rw [Lib.decDigits]
    split
    · simp
    · have := dec_len k (n / 10) (by rw [Nat.pow_succ] at h; omega)
      simp
      omega
theorem itoa_len {x : Int} (h0 : 0 ≤ x) (h1 : x ≤ 9999) : (Lib.itoa x).length ≤ 4 := by
  obtain ⟨n, rfl⟩ : ∃ n : Nat, x = n := ⟨x.toNat, by omega⟩
  rw [itoa_nat]
  exact dec_len 3 n (by omega)
theorem numsT_snoc (l : List Int) (x : Int) : numsT (l ++ [x]) = numsT l ++ numT x := by simp [numsT]
theorem numsT_len : ∀ (l : List Int), (∀ x ∈ l, 0 ≤ x ∧ x ≤ 9999) → (numsT l).length ≤ 5 * l.length
  | [], _ => by simp [numsT]
  | x :: l, h => by
    have h1 := numsT_len l (fun y hy => h y (by simp [hy]))
    have h2 := itoa_len (h x (by simp)).1 (h x (by simp)).2
    simp only [numsT, List.flatMap_cons, List.length_append, numT, List.length_cons] at h1 ⊢
    omega
theorem in_bounds {k : Nat} {f : LayF} (h : InB k f) : ∀ x ∈ (placesK k).map f.at, 0 ≤ x ∧ x ≤ 9999 := by
  intro x hx
  obtain ⟨j, hj, rfl⟩ := List.getElem_of_mem hx
  simp only [List.length_map] at hj
  have a := h j hj
  rw [List.getElem_map]
  have b : 0 ≤ lowK k j ∧ highK k ≤ 9999 := by
    unfold lowK highK
    constructor
    · split <;> omega
    · split <;> omega
  omega
theorem name_len (k : Nat) : (nameB k).length ≤ 9 := by unfold nameB; split <;> simp
theorem line_len {k : Nat} {f : LayF} (h : InB k f) : (lineT k f).length ≤ 40 := by
  have a := numsT_len _ (in_bounds h)
  have b := places_len k
  have c := name_len k
  rw [List.length_map] at a
  unfold lineT
  simp only [List.length_append, List.length_singleton]
  omega
mutual
theorem text_len : ∀ (l : Lay) {deep left l' : Nat}, l.good deep left = some l' → l.text.length + 40 * l' ≤ 40 * left
  | .mk f b, deep, left, l', h => by
    rw [Lay.good] at h
    rw [Lay.text]
    split at h
    · cases h
    rename_i h0
    split at h
    · rename_i hk
      rw [if_pos hk]
      split at h
      · have := texts_len b h
        have n1 : (nameB 13).length = 8 := rfl
        have n2 : endB.length = 3 := rfl
        simp only [List.length_append, List.length_singleton, n1, n2]
        omega
      · cases h
    · rename_i hk
      rw [if_neg hk]
      cases hkt : kindT f.kind with
      | none => rw [hkt] at h; cases h
      | some k =>
        rw [hkt] at h
        simp only at h ⊢
        split at h
        · rename_i hok
          cases h
          have hm : k ∈ kindsT := List.mem_of_find?_eq_some hkt
          have he : (k : Int) = f.kind := by simpa using List.find?_some hkt
          have := line_len ((okF_iff hm he.symm).1 hok.1).1
          omega
        · cases h
theorem texts_len : ∀ (ls : List Lay) {deep left l' : Nat}, goodS deep left ls = some l' → (textS ls).length + 40 * l' ≤ 40 * left
  | [], _, _, _, h => by simp [goodS] at h; simp [textS, h]
  | l :: ls, deep, left, l', h => by
    rw [goodS] at h
    cases h1 : l.good deep left with
    | none => rw [h1] at h; cases h
    | some l1 =>
      rw [h1] at h
      have a := text_len l h1
      have b := texts_len ls h
      rw [textS, List.length_append]
      omega
end
theorem kinds_inj : ∀ i, i < 12 → ∀ j, j < 12 → kindsT.getD i 0 = kindsT.getD j 0 → i = j := by decide
end Go.Proofs.YtgokenbojppnhaaDoor
