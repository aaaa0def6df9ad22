/- def.lines: what its iterator promises. -/
import Derived.Test.YtgokenbojppnhaaDoorIterG
import Derived.Test.YtgokenbojppnhaaDoorDefNum2
import Derived.Test.YtgokenbojppnhaaDoorDefText
import Derived.Deep.LoopGhost
namespace Go.Proofs.YtgokenbojppnhaaDoor
open Go.RowKit Go.Shelf
attribute [local go_sem] Oper.semAt_some
theorem cutAt_no {c : UInt8} : ∀ {r : Bs}, (∀ x ∈ r, x ≠ c) → cutAt c r = [r]
  | [], _ => rfl
  | y :: r, h => by
    rw [cutAt_cons, if_neg (h y (by simp)), cutAt_no (fun x hx => h x (by simp [hx]))]; rfl
theorem cutAt_split {c : UInt8} : ∀ {r : Bs} {k : Nat} (hk : k < r.length), r[k] = c → (∀ j (h : j < r.length), j < k → r[j] ≠ c) → cutAt c r = r.take k :: cutAt c (r.drop (k + 1))
  | y :: r, 0, _, h, _ => by
    simp only [List.getElem_cons_zero] at h
    rw [cutAt_cons, if_pos h]; rfl
  | y :: r, k + 1, hk, h, hn => by
    have h0 : y ≠ c := hn 0 (by simp) (by omega)
    have ih := cutAt_split (r := r) (k := k) (by simpa using hk) (by simpa using h) (fun j hj hjk => by have := hn (j + 1) (by simpa using hj) (by omega); simpa using this)
    rw [cutAt_cons, if_neg h0, ih]; rfl
theorem cutAt_len {c : UInt8} : ∀ (r : Bs), (cutAt c r).length ≤ r.length + 1
  | [] => by simp [cutAt]
  | y :: r => by
    have := cutAt_len (c := c) r
    obtain ⟨h, t, e⟩ := cutAt_some c r
    rw [cutAt_cons]
    split
    · simp; omega
    · rw [e] at this ⊢; simp at this ⊢; omega
/-- Where the lines stand: r is left. -/
def LinesTo (b r : Bs) (pre : List (Value × List Bs)) : Prop := ∃ L, cutAt 10 b = L ++ cutAt 10 r ∧ pre.map (·.2) = L.map wordsS ∧ r.length ≤ b.length
def LinesPre (b : Bs) (pre : List (Value × List Bs)) : Prop := ∃ L R, cutAt 10 b = L ++ R ∧ R ≠ [] ∧ pre.map (·.2) = L.map wordsS
theorem LinesPre.len {b : Bs} {pre : List (Value × List Bs)} (h : LinesPre b pre) : pre.length ≤ b.length := by
  obtain ⟨L, R, e, hR, h⟩ := h
  have a := cutAt_len (c := 10) b
  have c := congrArg List.length h
  rw [e] at a
  have : 0 < R.length := by cases R with | nil => exact absurd rfl hR | cons _ _ => simp
  simp at a c
  omega
def LinesY (x : Value × List Bs) (V W : World) : Prop := Ext V W ∧ W.ownsRow V.heap.size 9 1 x.1 x.2.length (strs x.2)
def strLen (W : World) (B : Nat) : Nat := match W.cell? ⟨B, 0, none⟩ with
  | some (.string s) => s.size
  | _ => 0
end Go.Proofs.YtgokenbojppnhaaDoor
