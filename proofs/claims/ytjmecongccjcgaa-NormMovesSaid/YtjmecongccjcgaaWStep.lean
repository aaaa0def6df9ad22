/- The plain law of a division's step: a row's window less a guess times the divisor, and the divisor added back as often as it was too much. whole.step: a division's step on a window of a row. -/
import Derived.Test.YtjmecongccjcgaaGb
import Derived.Test.YtjmecongccjcgaaNat1
import Derived.Test.YtjmecongccjcgaaWhole
import Derived.Test.YtjmecongccjcgaaW3
import Derived.Test.YtjmecongccjcgaaDiv64
import Derived.BigRegion
import Derived.BigQuiet
import Derived.Deep.RegionWith
import Derived.Deep.RegionHeld3
namespace Go.Proofs.Ytjmecongccjcgaa
/-- The window of m digits from place o on, as a number. -/
def win (o m : Nat) (zs : List Int) : Int := val B64 ((zs.drop o).take m)
/-- The first k digits of ys have been taken, g times, from z0 at place o on: c is the carry of the product, b what was borrowed. -/
structure MS (z0 ys : List Int) (g : Int) (o k : Nat) (c b : Int) (zs : List Int) : Prop where
  len : zs.length = z0.length
  digs : Digs B64 zs
  c0 : 0 ≤ c
  c1 : c < 18446744073709551616
  b0 : 0 ≤ b
  b1 : b ≤ 1
  same : ∀ j, j < o ∨ o + k ≤ j → zs.getD j 0 = z0.getD j 0
  is : val B64 zs + g * val B64 (ys.take k) * B64 ^ o = val B64 z0 + (c + b) * B64 ^ (o + k)
theorem MS.start {z0 ys : List Int} {g : Int} {o : Nat} (h : Digs B64 z0) : MS z0 ys g o 0 0 0 z0 :=
  ⟨rfl, h, by omega, by omega, by omega, by omega, fun _ _ => rfl, by simp [val]⟩
theorem mul3 (g y p q : Int) : g * (y * p) * q = g * y * (p * q) := by rw [← Int.mul_assoc, Int.mul_assoc]
theorem MS.step {z0 ys zs : List Int} {g c b c' b' l s : Int} {o k : Nat} (h : MS z0 ys g o k c b zs) (hz : o + k < zs.length)
    (e1 : g * ys.getD k 0 + c = l + c' * 18446744073709551616) (e2 : zs.getD (o + k) 0 - l - b = s - b' * 18446744073709551616) (s0 : 0 ≤ s) (s1 : s < 18446744073709551616) (c0 : 0 ≤ c') (c1 : c' < 18446744073709551616) (b0 : 0 ≤ b') (b1 : b' ≤ 1) :
    MS z0 ys g o (k + 1) c' b' (zs.set (o + k) s) := by
  refine ⟨by rw [List.length_set]; exact h.len, h.digs.set _ s0 (by unfold B64; omega), c0, c1, b0, b1, fun j hj => ?_, ?_⟩
  · rw [getD_set_ne _ _ _ _ (by omega)]; exact h.same j (by omega)
  · rw [val_set _ _ _ _ hz, val_take_succ]
    have e0 := h.is
    generalize zs.getD (o + k) 0 = z at *
    generalize ys.getD k 0 = y at *
    rw [Int.mul_add, Int.add_mul, mul3, ← Int.pow_add, Nat.add_comm k o, ← Nat.add_assoc, Int.pow_succ]
    generalize B64 ^ (o + k) = p at *
    generalize g * val B64 (ys.take k) * B64 ^ o = t at *
    have e3 : (c' + b') * (p * B64) = ((c' + b') * 18446744073709551616) * p := by
      rw [Int.mul_comm p, ← Int.mul_assoc]; rfl
    have e4 : (c' + b') * 18446744073709551616 = c + b + (s - z) + g * y := by rw [Int.add_mul]; omega
    rw [e3, e4]
    clear e3 e4 e1 e2
    simp only [Int.add_mul, Int.sub_mul] at e0 ⊢
    generalize c * p = cp at *
    generalize b * p = bp at *
    generalize s * p = sp at *
    generalize z * p = zp at *
    generalize g * y * p = gp at *
    omega
/-- ys has been taken g times; b: what was borrowed ahead of the window. -/
structure TS (z0 ys : List Int) (g : Int) (o : Nat) (b : Int) (zs : List Int) : Prop where
  len : zs.length = z0.length
  digs : Digs B64 zs
  b0 : 0 ≤ b
  b1 : b ≤ 1
  same : ∀ j, j < o ∨ o + ys.length + 1 ≤ j → zs.getD j 0 = z0.getD j 0
  is : val B64 zs + g * val B64 ys * B64 ^ o = val B64 z0 + b * B64 ^ (o + ys.length + 1)
theorem MS.top {z0 ys zs : List Int} {g c b b' s : Int} {o : Nat} (h : MS z0 ys g o ys.length c b zs) (hz : o + ys.length < zs.length)
    (e2 : zs.getD (o + ys.length) 0 - c - b = s - b' * 18446744073709551616) (s0 : 0 ≤ s) (s1 : s < 18446744073709551616) (b0 : 0 ≤ b') (b1 : b' ≤ 1) :
    TS z0 ys g o b' (zs.set (o + ys.length) s) := by
  refine ⟨by rw [List.length_set]; exact h.len, h.digs.set _ s0 (by unfold B64; omega), b0, b1, fun j hj => ?_, ?_⟩
  · rw [getD_set_ne _ _ _ _ (by omega)]; exact h.same j (by omega)
  · rw [val_set _ _ _ _ hz]
    have e0 := h.is
    rw [List.take_length] at e0
    generalize zs.getD (o + ys.length) 0 = z at *
    rw [Int.pow_succ]
    generalize B64 ^ (o + ys.length) = p at *
    generalize g * val B64 ys * B64 ^ o = t at *
    have e3 : b' * (p * B64) = (b' * 18446744073709551616) * p := by rw [Int.mul_comm p, ← Int.mul_assoc]; rfl
    have e4 : b' * 18446744073709551616 = c + b + (s - z) := by omega
    rw [e3, e4]
    clear e3 e4 e2
    simp only [Int.add_mul, Int.sub_mul] at e0 ⊢
    generalize c * p = cp at *
    generalize b * p = bp at *
    generalize s * p = sp at *
    generalize z * p = zp at *
    omega
/-- The first k digits of ys have been added to z1 at place o on; r: the carry. -/
structure AD (z1 ys : List Int) (o k : Nat) (r : Int) (zs : List Int) : Prop where
  len : zs.length = z1.length
  digs : Digs B64 zs
  r0 : 0 ≤ r
  r1 : r ≤ 1
  same : ∀ j, j < o ∨ o + k ≤ j → zs.getD j 0 = z1.getD j 0
  is : val B64 zs + r * B64 ^ (o + k) = val B64 z1 + val B64 (ys.take k) * B64 ^ o
theorem AD.start {z1 ys : List Int} {o : Nat} (h : Digs B64 z1) : AD z1 ys o 0 0 z1 :=
  ⟨rfl, h, by omega, by omega, fun _ _ => rfl, by simp [val]⟩
theorem AD.step {z1 ys zs : List Int} {r r' s : Int} {o k : Nat} (h : AD z1 ys o k r zs) (hz : o + k < zs.length)
    (e : zs.getD (o + k) 0 + ys.getD k 0 + r = s + r' * 18446744073709551616) (s0 : 0 ≤ s) (s1 : s < 18446744073709551616) (r0 : 0 ≤ r') (r1 : r' ≤ 1) :
    AD z1 ys o (k + 1) r' (zs.set (o + k) s) := by
  refine ⟨by rw [List.length_set]; exact h.len, h.digs.set _ s0 (by unfold B64; omega), r0, r1, fun j hj => ?_, ?_⟩
  · rw [getD_set_ne _ _ _ _ (by omega)]; exact h.same j (by omega)
  · rw [val_set _ _ _ _ hz, val_take_succ]
    have e0 := h.is
    generalize zs.getD (o + k) 0 = z at *
    generalize ys.getD k 0 = y at *
    rw [Int.add_mul, Int.mul_assoc y, ← Int.pow_add, Nat.add_comm k o, ← Nat.add_assoc, Int.pow_succ]
    generalize B64 ^ (o + k) = p at *
    generalize val B64 (ys.take k) * B64 ^ o = t at *
    have e3 : r' * (p * B64) = (r' * 18446744073709551616) * p := by rw [Int.mul_comm p, ← Int.mul_assoc]; rfl
    have e4 : r' * 18446744073709551616 = z + y + r - s := by omega
    rw [e3, e4]
    clear e3 e4 e
    simp only [Int.add_mul, Int.sub_mul] at e0 ⊢
    generalize r * p = rp at *
    generalize s * p = sp at *
    generalize z * p = zp at *
    generalize y * p = yp at *
    omega
theorem AD.top {z0 z1 ys zs : List Int} {g b r r' s : Int} {o : Nat} (h : AD z1 ys o ys.length r zs) (ht : TS z0 ys g o b z1) (hz : o + ys.length < zs.length)
    (e : zs.getD (o + ys.length) 0 + r = s + r' * 18446744073709551616) (s0 : 0 ≤ s) (s1 : s < 18446744073709551616) (r0 : 0 ≤ b - r') (r1 : b - r' ≤ 1) :
    TS z0 ys (g - 1) o (b - r') (zs.set (o + ys.length) s) := by
  refine ⟨by rw [List.length_set, h.len]; exact ht.len, h.digs.set _ s0 (by unfold B64; omega), r0, r1, fun j hj => ?_, ?_⟩
  · rw [getD_set_ne _ _ _ _ (by omega), h.same j (by omega)]; exact ht.same j hj
  · rw [val_set _ _ _ _ hz]
    have e0 := h.is
    have e1 := ht.is
    rw [List.take_length] at e0
    generalize zs.getD (o + ys.length) 0 = z at *
    rw [Int.pow_succ] at *
    generalize B64 ^ (o + ys.length) = p at *
    have e3 : (b - r') * (p * B64) = b * (p * B64) - (r' * 18446744073709551616) * p := by rw [Int.sub_mul, Int.mul_comm p, ← Int.mul_assoc r']; rfl
    have e4 : r' * 18446744073709551616 = z + r - s := by omega
    rw [e3, e4]
    clear e3 e4 e
    simp only [Int.add_mul, Int.sub_mul, Int.one_mul] at e0 e1 ⊢
    generalize b * (p * B64) = bp at *
    generalize g * val B64 ys * B64 ^ o = t at *
    generalize val B64 ys * B64 ^ o = yo at *
    generalize r * p = rp at *
    generalize s * p = sp at *
    generalize z * p = zp at *
    omega
theorem list_of_getD {xs ys : List Int} (hl : xs.length = ys.length) (h : ∀ j, j < xs.length → xs.getD j 0 = ys.getD j 0) : xs = ys := by
  apply List.ext_getElem hl
  intro i h1 h2
  have := h i h1
  simpa [List.getD_eq_getElem?_getD, List.getElem?_eq_getElem h1, List.getElem?_eq_getElem h2] using this
theorem take_same {xs ys : List Int} {o : Nat} (hl : xs.length = ys.length) (h : ∀ j, j < o → xs.getD j 0 = ys.getD j 0) : xs.take o = ys.take o := by
  apply list_of_getD (by simp [hl])
  intro j hj
  rw [List.length_take] at hj
  rw [getD_take _ _ _ (by omega), getD_take _ _ _ (by omega)]
  exact h j (by omega)
theorem getD_drop' (xs : List Int) (o j : Nat) : (xs.drop o).getD j 0 = xs.getD (o + j) 0 := by
  rw [List.getD_eq_getElem?_getD, List.getD_eq_getElem?_getD, List.getElem?_drop]
theorem drop_same {xs ys : List Int} {o : Nat} (hl : xs.length = ys.length) (h : ∀ j, o ≤ j → xs.getD j 0 = ys.getD j 0) : xs.drop o = ys.drop o := by
  apply list_of_getD (by simp [hl])
  intro j hj
  rw [getD_drop', getD_drop']
  exact h _ (by omega)
theorem b64_pos : (0 : Int) < B64 := by decide
theorem pow64_pos (n : Nat) : (0 : Int) < B64 ^ n := Int.pow_pos b64_pos
theorem val_win {zs : List Int} {o m : Nat} (h : o + m ≤ zs.length) : val B64 zs = val B64 (zs.take o) + B64 ^ o * win o m zs + B64 ^ (o + m) * val B64 (zs.drop (o + m)) := by
  rw [val_split B64 zs o (by omega), val_split B64 (zs.drop o) m (by simp; omega), List.drop_drop]
  unfold win
  rw [Int.mul_add, ← Int.mul_assoc, ← Int.pow_add, Int.add_assoc]
theorem TS.win_eq {z0 ys zs : List Int} {g b : Int} {o : Nat} (h : TS z0 ys g o b zs) (ho : o + (ys.length + 1) ≤ z0.length) :
    win o (ys.length + 1) zs + g * val B64 ys = win o (ys.length + 1) z0 + b * B64 ^ (ys.length + 1) := by
  have e := h.is
  rw [val_win (zs := zs) (o := o) (m := ys.length + 1) (by rw [h.len]; omega), val_win (zs := z0) ho, take_same h.len (fun j hj => h.same j (.inl hj)), drop_same (o := o + (ys.length + 1)) h.len (fun j hj => h.same j (.inr (by omega)))] at e
  rw [Nat.add_assoc o, Int.pow_add, Int.mul_comm (g * val B64 ys), ← Int.mul_assoc b, Int.mul_comm b, Int.mul_assoc (B64 ^ o) b] at e
  generalize val B64 (z0.take o) = a at e
  generalize B64 ^ o * B64 ^ (ys.length + 1) * val B64 (z0.drop (o + (ys.length + 1))) = d at e
  have e2 : B64 ^ o * (win o (ys.length + 1) zs + g * val B64 ys) = B64 ^ o * (win o (ys.length + 1) z0 + b * B64 ^ (ys.length + 1)) := by
    rw [Int.mul_add, Int.mul_add]; omega
  exact Int.eq_of_mul_eq_mul_left (by have := pow64_pos o; omega) e2
theorem win_bd {zs : List Int} (h : Digs B64 zs) (o m : Nat) (ho : o + m ≤ zs.length) : 0 ≤ win o m zs ∧ win o m zs < B64 ^ m := by
  have := val_bd b64_pos ((zs.drop o).take m) (Digs.take (fun d hd => h d (List.mem_of_mem_drop hd)) m)
  rw [List.length_take, List.length_drop, Nat.min_eq_left (by omega)] at this
  exact this
/-- Where something was borrowed the guess was too great. -/
theorem TS.more {z0 ys zs : List Int} {g b : Int} {o : Nat} (h : TS z0 ys g o b zs) (ho : o + (ys.length + 1) ≤ z0.length) (hY : 0 < val B64 ys) (hb : 0 < b) : win o (ys.length + 1) z0 / val B64 ys < g := by
  have e := h.win_eq ho
  have := (win_bd h.digs o (ys.length + 1) (by rw [h.len]; omega)).2
  have b1 : b = 1 := by have := h.b1; omega
  subst b1
  rw [Int.one_mul] at e
  exact Int.ediv_lt_of_lt_mul hY (by omega)
/-- Where nothing is left to be borrowed the guess is the quotient, the window the remainder. -/
theorem TS.done {z0 ys zs : List Int} {g : Int} {o : Nat} (h : TS z0 ys g o 0 zs) (ho : o + (ys.length + 1) ≤ z0.length) (hY : 0 < val B64 ys) (hg : win o (ys.length + 1) z0 / val B64 ys ≤ g) :
    g = win o (ys.length + 1) z0 / val B64 ys ∧ win o (ys.length + 1) zs = win o (ys.length + 1) z0 % val B64 ys := by
  have e := h.win_eq ho
  have h0 := (win_bd h.digs o (ys.length + 1) (by rw [h.len]; omega)).1
  rw [Int.zero_mul, Int.add_zero] at e
  have h1 : g ≤ win o (ys.length + 1) z0 / val B64 ys := Int.le_ediv_of_mul_le hY (by omega)
  have hq : g = win o (ys.length + 1) z0 / val B64 ys := by omega
  refine ⟨hq, ?_⟩
  have := Int.emod_add_mul_ediv (win o (ys.length + 1) z0) (val B64 ys)
  rw [← hq, Int.mul_comm (val B64 ys)] at this
  omega
/-- A quotient of a window that is below B64 times the divisor is one digit. -/
theorem guess_most {X Y : Int} (hY : 0 < Y) (h : X < Y * 18446744073709551616) : X / Y ≤ 18446744073709551615 := by
  have : X / Y < 18446744073709551616 := Int.ediv_lt_of_lt_mul hY (by rw [Int.mul_comm]; exact h)
  omega
/-- The guess from the two top digits of the window and the top one of the divisor is not too low. -/
theorem guess_two {zs ys : List Int} {o n : Nat} (hz : Digs B64 zs) (hy : Digs B64 ys) (hl : ys.length = n + 1) (ho : o + (n + 2) ≤ zs.length) (ht : 0 < ys.getD n 0) :
    win o (n + 2) zs / val B64 ys ≤ (zs.getD (o + (n + 1)) 0 * 18446744073709551616 + zs.getD (o + n) 0) / ys.getD n 0 := by
  have eY : val B64 ys = val B64 (ys.take n) + ys.getD n 0 * B64 ^ n := by
    have := val_take_succ B64 ys n
    rw [List.take_of_length_le (by omega)] at this
    exact this
  have y0 := (val_bd b64_pos (ys.take n) (hy.take n)).1
  have eX : win o (n + 2) zs = win o n zs + (zs.getD (o + (n + 1)) 0 * 18446744073709551616 + zs.getD (o + n) 0) * B64 ^ n := by
    unfold win
    rw [val_take_succ, val_take_succ, getD_drop', getD_drop', Int.pow_succ, Int.add_mul]
    have : zs.getD (o + (n + 1)) 0 * (B64 ^ n * B64) = zs.getD (o + (n + 1)) 0 * 18446744073709551616 * B64 ^ n := by
      rw [Int.mul_comm (B64 ^ n), ← Int.mul_assoc]; rfl
    omega
  have xb := (win_bd hz o n (by omega)).2
  have p := pow64_pos n
  have u0 : 0 ≤ zs.getD (o + (n + 1)) 0 * 18446744073709551616 + zs.getD (o + n) 0 := by
    have a := (hz.at (o + (n + 1)) (by omega)).1
    have b := (hz.at (o + n) (by omega)).1
    omega
  generalize win o (n + 2) zs = X at *
  generalize win o n zs = W at *
  generalize zs.getD (o + (n + 1)) 0 * 18446744073709551616 + zs.getD (o + n) 0 = U at *
  generalize ys.getD n 0 = t at *
  generalize val B64 (ys.take n) = V at *
  generalize B64 ^ n = P at *
  have hY : 0 < val B64 ys := by have := Int.mul_pos ht p; omega
  generalize val B64 ys = Y at *
  by_cases hq : X / Y ≤ 0
  · exact Int.le_trans hq (Int.ediv_nonneg u0 (by omega))
  · have q0 : 0 ≤ X / Y := by omega
    refine Int.le_ediv_of_mul_le ht ?_
    have h1 : X / Y * Y ≤ X := by have := Int.emod_add_mul_ediv X Y; have := Int.emod_nonneg X (show Y ≠ 0 by omega); rw [Int.mul_comm Y] at *; omega
    have h2 : X / Y * (t * P) ≤ X / Y * Y := Int.mul_le_mul_of_nonneg_left (by omega) q0
    have h3 : (X / Y * t) * P < (U + 1) * P := by rw [Int.mul_assoc, Int.add_mul, Int.one_mul]; omega
    have := Int.lt_of_mul_lt_mul_right h3 (Int.le_of_lt p)
    omega
end Go.Proofs.Ytjmecongccjcgaa
namespace Go.Proofs.Ytjmecongccjcgaa
open Go.RowKit
section
variable {w W W' : World} {b : Nat}
theorem GB.row {k : IntKind} {v : Value} {ds : List Int} (h : GB w W b) (hy : Row k w v ds) (ho : Off b v) : Row k W v ds := by
  obtain ⟨a, cap, rfl, h1, h2, h3⟩ := hy
  refine ⟨a, cap, rfl, h1, h2, fun hn => ?_⟩
  obtain ⟨b', o, rfl, hc⟩ := h3 hn
  refine ⟨b', o, rfl, fun i hi => ?_⟩
  have := hc i hi
  rw [← this]
  exact World.cell?_of_block (h.block _ (cell_lt this) (fun e => ho _ _ _ rfl (List.length_pos_iff.2 hn) (Option.some.inj e)))
end
/-- What step leaves behind. -/
structure Stepped (zs ys zs' : List Int) (ox : Nat) : Prop where
  len : zs'.length = zs.length
  digs : Digs B64 zs'
  same : ∀ j, j < ox ∨ ox + ys.length + 1 ≤ j → zs'.getD j 0 = zs.getD j 0
  is : win ox (ys.length + 1) zs' = win ox (ys.length + 1) zs % val B64 ys
theorem m_digit {g y c z b : Int} (g0 : 0 ≤ g) (g1 : g < 18446744073709551616) (y0 : 0 ≤ y) (y1 : y < 18446744073709551616) (c0 : 0 ≤ c) (c1 : c < 18446744073709551616) (z0 : 0 ≤ z) (z1 : z < 18446744073709551616) (b0 : 0 ≤ b) (b1 : b ≤ 1) :
    g * y + c = lo (lo (g * y) + c) + (hi (g * y) + hi (lo (g * y) + c)) * 18446744073709551616 ∧ 0 ≤ hi (g * y) + hi (lo (g * y) + c) ∧ hi (g * y) + hi (lo (g * y) + c) < 18446744073709551616 ∧
    z - lo (lo (g * y) + c) - b = lo (z - lo (lo (g * y) + c) - b) - -hi (z - lo (lo (g * y) + c) - b) * 18446744073709551616 ∧ 0 ≤ lo (z - lo (lo (g * y) + c) - b) ∧ lo (z - lo (lo (g * y) + c) - b) < 18446744073709551616 ∧
    0 ≤ -hi (z - lo (lo (g * y) + c) - b) ∧ -hi (z - lo (lo (g * y) + c) - b) ≤ 1 ∧ 0 ≤ lo (g * y) ∧ 0 ≤ lo (lo (g * y) + c) ∧ lo (lo (g * y) + c) < 18446744073709551616 := by
  obtain ⟨p0, p1⟩ := mul_bd64 g0 g1 y0 y1
  generalize g * y = p at *
  unfold hi lo
  omega
theorem t_digit {c z b : Int} (c0 : 0 ≤ c) (c1 : c < 18446744073709551616) (z0 : 0 ≤ z) (z1 : z < 18446744073709551616) (b0 : 0 ≤ b) (b1 : b ≤ 1) :
    z - c - b = lo (z - c - b) - -hi (z - c - b) * 18446744073709551616 ∧ 0 ≤ lo (z - c - b) ∧ lo (z - c - b) < 18446744073709551616 ∧ 0 ≤ -hi (z - c - b) ∧ -hi (z - c - b) ≤ 1 := by
  unfold hi lo
  omega
theorem a_digit {y z r : Int} (y0 : 0 ≤ y) (y1 : y < 18446744073709551616) (z0 : 0 ≤ z) (z1 : z < 18446744073709551616) (b0 : 0 ≤ r) (b1 : r ≤ 1) :
    z + y + r = lo (z + y + r) + hi (z + y + r) * 18446744073709551616 ∧ 0 ≤ lo (z + y + r) ∧ lo (z + y + r) < 18446744073709551616 ∧ 0 ≤ hi (z + y + r) ∧ hi (z + y + r) ≤ 1 := by
  unfold hi lo
  omega
set_option maxHeartbeats 4000000 in
set_option maxRecDepth 100000 in
theorem step_ref {bx ox N cap n base cy : Nat} {ay : Option Addr} {zs ys : List Int} {w : World}
    (hown : w.ownsRow base 109 1 (.slice (some ⟨bx, 0, none⟩) N cap) N (zs.map (Value.int .u64))) (hy : Row .u64 w (.slice ay ys.length cy) ys) (hoff : Off bx (.slice ay ys.length cy)) (dz : Digs B64 zs) (dy : Digs B64 ys)
    (hl : ys.length = n + 1) (ho : ox + (n + 2) ≤ N) (hN : N ≤ 1000000) (ht : 0 < ys.getD n 0) (hX : win ox (n + 2) zs < val B64 ys * 18446744073709551616) :
    Calls Try.prog 137 #[.slice (some ⟨bx, ox, none⟩) (n + 2) (n + 2), .slice ay (n + 1) cy] w fun e w' =>
      ∃ zs', e = .returned (.int .u64 (win ox (n + 2) zs / val B64 ys)) ∧ GB w w' bx ∧ w'.ownsRow base 109 1 (.slice (some ⟨bx, 0, none⟩) N cap) N (zs'.map (Value.int .u64)) ∧ Stepped zs ys zs' ox := by
  have zl : zs.length = N := by simpa using hown.1
  have hY : 0 < val B64 ys := by
    have eY := val_take_succ B64 ys n
    rw [List.take_of_length_le (by omega)] at eY
    have y0 := (val_bd b64_pos (ys.take n) (dy.take n)).1
    have := Int.mul_pos ht (pow64_pos n)
    omega
  have G2 := Lib.hid (guess_two (o := ox) dz dy hl (by omega) ht)
  have G1 := Lib.hid (guess_most hY hX)
  have q0 : 0 ≤ win ox (n + 2) zs / val B64 ys := Int.ediv_nonneg (win_bd dz ox (n + 2) (by omega)).1 (by omega)
  have xm0 := (dz.at (ox + (n + 1)) (by omega)).1
  have xm1 := (dz.at (ox + (n + 1)) (by omega)).2
  have xn0 := (dz.at (ox + n) (by omega)).1
  have xn1 := (dz.at (ox + n) (by omega)).2
  have t1 := (dy.at n (by omega)).2
  unfold B64 at xm1 xn1 t1
  have HY := Lib.hid hy
  have HO := Lib.hid hoff
  have HW := Lib.hid hown
  have HX := Lib.hid hX
  have YP := Lib.hid hY
  obtain ⟨Q, hQ⟩ : ∃ Q, win ox (n + 2) zs / val B64 ys = Q := ⟨_, rfl⟩
  rw [hQ] at G1 G2 q0 ⊢
  have HQ := Lib.hid hQ
  have kx1 := owns_at hown (ox + (n + 1)) (by omega)
  have kx0 := owns_at hown (ox + n) (by omega)
  obtain ⟨by', oy, rfl, ky⟩ := hy.cellAt n (by omega)
  have W1 : IntKind.i64.wrap ((n : Int) + 1 - 1) = (n : Int) := by rw [IntKind.wrap_i64]; omega
  have W2 : (n : Int) + 1 - 1 = (n : Int) := by omega
  have n0 : (0 : Int) ≤ (n : Int) := by omega
  have dv := fun u => div64_any (zs.getD (ox + (n + 1)) 0 * 18446744073709551616 + zs.getD (ox + n) 0) (ys.getD n 0) u (by constructor <;> omega)
  rw [(hi_of xn0 xn1).1, (hi_of xn0 xn1).2] at dv
  have DV := Lib.hid dv
  clear dv
  have HL := Lib.hid hl
  have HZL := Lib.hid zl
  have dz' := dz
  have dy' := dy
  clear hX hY hQ hown hy hoff hl zl dz dy
  generalize zs.getD (ox + (n + 1)) 0 = xm at *
  generalize zs.getD (ox + n) 0 = xn at *
  generalize ys.getD n 0 = tt at *
  have DZ := Lib.hid dz'
  have DY := Lib.hid dy'
  clear dz' dy'
  go_enter Try.func137, Try.ntmps137
  go_wp2_with fail
  have W3 : IntKind.i64.wrap (n : Int) = (n : Int) := by rw [IntKind.wrap_i64]; omega
  have i1 : (n : Int) + 1 < (n : Int) + 2 := by omega
  have i2 : (n : Int) < (n : Int) + 2 := by omega
  have i3 : (n : Int) < (n : Int) + 1 := by omega
  have i4 : (0 : Int) ≤ (n : Int) + 1 := by omega
  have EX : Hid (GB w w.drew bx ∧ w.drew.ownsRow base 109 1 (.slice (some ⟨bx, 0, none⟩) N cap) N (zs.map (Value.int .u64))) := Lib.hid ⟨(GB.refl w bx).drew, HW.out⟩
  rcases Int.lt_or_le xm tt with hlt | hge
  · have hd : decide (xm < tt) = true := by simpa using hlt
    have DV2 := Lib.hid (fun u => DV.out u hlt t1)
    clear DV
    go_region
    rename_i hKc
    refine hKc _ _ ?_
    go_cut [6] (fun s6 wx => ∃ g : Int, s6 = .int .u64 g ∧ Q ≤ g ∧ g ≤ 18446744073709551615 ∧ wx.ownsRow base 109 1 (.slice (some ⟨bx, 0, none⟩) N cap) N (zs.map (Value.int .u64)) ∧ GB w wx bx)
    case first => as_aux_lemma =>
      go_wp2_with fail
      go_region_held3 (fun w' => w'.cell? ⟨bx, ox + (n + 1), none⟩ = some (.int .u64 xm) ∧ w'.cell? ⟨bx, ox + n, none⟩ = some (.int .u64 xn) ∧ w'.cell? ⟨by', oy + n, none⟩ = some (.int .u64 tt) ∧ Ext w w')
        (refine ⟨?_, ?_, ?_, ?_⟩ <;> first | assumption | (simp [go_sem, *]; done) | exact Ext.drew (Ext.refl _) | exact Ext.drew (Ext.drew (Ext.refl _)))
        ((go_at_call 144; refine (DV2.out _).mono ?_; rintro e v1 ⟨rfl, x1⟩; have j1 := x1.cell kx1; have j2 := x1.cell kx0; have j3 := x1.cell ky; have xw := (Ext.drew (Ext.drew (Ext.refl w))).tr x1))
      all_goals
        go_wp2_with fail
        go_meet
        exact ⟨_, rfl, G2.out, guess_most ht (by omega), xw.owns HW.out, (GB.refl w bx).ext xw⟩
    case rest => as_aux_lemma =>
      obtain ⟨g, rfl, gQ, gM, hown, hgb⟩ := hcut
      have HWx := Lib.hid hown
      clear hown
      go_wp2_with fail
      go_loopw [7, 8, 46] (fun bv cv iv wr => ∃ (k : Nat) (c b : Int) (zs' : List Int), k ≤ n + 1 ∧ iv = .int .i64 k ∧ cv = .int .u64 c ∧ bv = .int .u64 b ∧ MS zs ys g ox k c b zs' ∧ wr.ownsRow base 109 1 (.slice (some ⟨bx, 0, none⟩) N cap) N (zs'.map (Value.int .u64)) ∧ GB w wr bx) (fun _ _ iv _ => n + 1 - (intOf iv).toNat)
      case atStart => exact ⟨0, 0, 0, zs, Nat.zero_le _, rfl, rfl, rfl, MS.start DZ.out, HWx.out, hgb⟩
      case round =>
        clear HWx hgb
        obtain ⟨k, c, b, zs', hk, rfl, rfl, rfl, hM, hown, hgb⟩ := hrel
        have c0 := hM.c0
        have c1 := hM.c1
        have b0 := hM.b0
        have b1 := hM.b1
        have hlz := hM.len
        have zl := HZL.out
        have lY := HL.out
        by_cases hlt : k < n + 1
        · obtain ⟨by2, oy2, e9, cy⟩ := (hgb.row HY.out HO.out).cellAt k (by omega)
          cases e9
          have cz := owns_at hown (ox + k) (by omega)
          have fz := hown.frozenAt (ox + k)
          obtain ⟨y0, y1⟩ := getD_bd' DY.out k
          obtain ⟨z0, z1⟩ := getD_bd' hM.digs (ox + k)
          unfold B64 at y1 z1
          obtain ⟨q1, q2, q3, q4, q5, q6, q7, q8, q9, qa, qb⟩ := m_digit (g := g) (by omega) (by omega) y0 y1 c0 c1 z0 z1 b0 b1
          have ST := Lib.hid (hM.step (by omega) q1 q4 q5 q6 q2 q3 q7 q8)
          have MU := Lib.hid (fun u => mul64_any g (ys.getD k 0) u (by omega) (by omega) y0 y1)
          have A1 := add64_0 (lo (g * ys.getD k 0)) c q9 c0
          have S1 := sub64 (zs'.getD (ox + k) 0) (lo (lo (g * ys.getD k 0) + c)) b z0 qa qb z1 b0 b1
          have v1 : IntKind.u64.wrap (hi (g * ys.getD k 0) + hi (lo (g * ys.getD k 0) + c)) = hi (g * ys.getD k 0) + hi (lo (g * ys.getD k 0) + c) := by rw [IntKind.wrap_u64]; omega
          have HW := Lib.hid hown
          have HG := Lib.hid hgb
          have ny : (k : Int) < (n : Int) + 1 := by omega
          have nx : (k : Int) < (n : Int) + 2 := by omega
          clear hM hown hgb q1 q2 q3 q4 q5 q6 q7 q8 q9 qa qb hlz zl lY
          generalize ys.getD k 0 = yd at *
          generalize zs'.getD (ox + k) 0 = zd at *
          generalize -hi (zd - lo (lo (g * yd) + c) - b) = b2 at *
          generalize lo (zd - lo (lo (g * yd) + c) - b) = s2 at *
          generalize lo (lo (g * yd) + c) = s1 at *
          generalize hi (lo (g * yd) + c) = o1 at *
          generalize lo (g * yd) = pl at *
          generalize hi (g * yd) = ph at *
          go_wp2_with fail
          refine (MU.out _).mono ?_
          rintro e w' ⟨rfl, rfl⟩
          go_wp2_with fail
          exact ⟨⟨k + 1, _, _, _, by omega, by go_num, rfl, rfl, ST.out, own_set HW.out _ _, by first | exact HG.out.set _ _ | exact (HG.out.set _ _).drew⟩, by simp [intOf]; omega⟩
        · obtain rfl : k = n + 1 := by omega
          have hM2 : MS zs ys g ox ys.length c b zs' := by rw [HL.out]; exact hM
          have cz := owns_at hown (ox + (n + 1)) (by omega)
          have fz := hown.frozenAt (ox + (n + 1))
          obtain ⟨z0, z1⟩ := getD_bd' hM.digs (ox + (n + 1))
          unfold B64 at z1
          obtain ⟨q4, q5, q6, q7, q8⟩ := t_digit c0 c1 z0 z1 b0 b1
          have TT := Lib.hid (hM2.top (b' := -hi (zs'.getD (ox + (n + 1)) 0 - c - b)) (s := lo (zs'.getD (ox + (n + 1)) 0 - c - b)) (by omega) (by rw [HL.out]; exact q4) q5 q6 q7 q8)
          rw [HL.out] at TT
          have S1 := sub64 (zs'.getD (ox + (n + 1)) 0) c b z0 c0 c1 z1 b0 b1
          have HW := Lib.hid hown
          have HG := Lib.hid hgb
          have ny : ¬ (n : Int) + 1 < (n : Int) + 1 := by omega
          have nx : (n : Int) + 1 < (n : Int) + 2 := by omega
          clear hM hM2 hown hgb q4 q5 q6 hlz zl lY
          generalize zs'.getD (ox + (n + 1)) 0 = zd at *
          generalize -hi (zd - c - b) = b2 at *
          generalize lo (zd - c - b) = s2 at *
          go_wp2_with fail
          go_loopw [6, 7] (fun gv bv wr => ∃ (g b : Int) (zs' : List Int), gv = .int .u64 g ∧ bv = .int .u64 b ∧ Q ≤ g ∧ g ≤ 18446744073709551615 ∧ TS zs ys g ox b zs' ∧ wr.ownsRow base 109 1 (.slice (some ⟨bx, 0, none⟩) N cap) N (zs'.map (Value.int .u64)) ∧ GB w wr bx) (fun gv _ _ => (intOf gv).toNat)
          case atStart => exact ⟨g, b2, _, rfl, rfl, gQ, gM, TT.out, own_set HW.out _ _, by first | exact HG.out.set _ _ | exact (HG.out.set _ _).drew⟩
          case round =>
            clear TT HW HG gQ gM
            obtain ⟨g, b, z1, rfl, rfl, gQ, gM, hT, hown, hgb⟩ := hrel
            have b0 := hT.b0
            have b1 := hT.b1
            have hlz := hT.len
            have zl := HZL.out
            have lY := HL.out
            have hwin : ox + (ys.length + 1) ≤ zs.length := by omega
            by_cases hb : b = 0
            · subst hb
              have D := hT.done hwin YP.out (by rw [HL.out, HQ.out]; exact gQ)
              rw [HL.out, HQ.out] at D
              obtain ⟨hgQ, hR⟩ := D
              have FIN : Hid (Stepped zs ys z1 ox) := Lib.hid ⟨hT.len, hT.digs, hT.same, by rw [HL.out]; exact hR⟩
              have HW := Lib.hid hown
              have HG := Lib.hid hgb
              subst hgQ
              clear hT hown hgb hR hlz zl lY hwin
              go_wp2_with fail
              go_ret
              exact ⟨z1, rfl, HG.out, HW.out, FIN.out⟩
            · obtain rfl : b = 1 := by omega
              have gm := hT.more hwin YP.out (by omega)
              rw [HL.out, HQ.out] at gm
              have HT := Lib.hid hT
              have HW := Lib.hid hown
              have HG := Lib.hid hgb
              have wg : IntKind.u64.wrap (g - 1) = g - 1 := by rw [IntKind.wrap_u64]; omega
              have hl1 : z1.length = N := by omega
              have HL1 := Lib.hid hl1
              clear hT hown hgb hlz zl lY hwin hl1
              go_wp2_with fail
              go_loopw [13, 99] (fun rv iv wq => ∃ (k : Nat) (r : Int) (z2 : List Int), k ≤ n + 1 ∧ iv = .int .i64 k ∧ rv = .int .u64 r ∧ AD z1 ys ox k r z2 ∧ wq.ownsRow base 109 1 (.slice (some ⟨bx, 0, none⟩) N cap) N (z2.map (Value.int .u64)) ∧ GB w wq bx) (fun _ iv _ => n + 1 - (intOf iv).toNat)
              case atStart => exact ⟨0, 0, z1, Nat.zero_le _, rfl, rfl, AD.start HT.out.digs, HW.out, HG.out⟩
              case round =>
                clear HW HG
                obtain ⟨k, r, z2, hk, rfl, rfl, hA, hown, hgb⟩ := hrel
                have r0 := hA.r0
                have r1 := hA.r1
                have hl2 := hA.len
                have hl1 := HL1.out
                have lY := HL.out
                by_cases hlt3 : k < n + 1
                · obtain ⟨by3, oy3, e9, cy⟩ := (hgb.row HY.out HO.out).cellAt k (by omega)
                  cases e9
                  have cz := owns_at hown (ox + k) (by omega)
                  have fz := hown.frozenAt (ox + k)
                  obtain ⟨y0, y1⟩ := getD_bd' DY.out k
                  obtain ⟨z0, z1_⟩ := getD_bd' hA.digs (ox + k)
                  unfold B64 at y1 z1_
                  obtain ⟨q1, q2, q3, q4, q5⟩ := a_digit y0 y1 z0 z1_ r0 r1
                  have ST := Lib.hid (hA.step (by omega) q1 q2 q3 q4 q5)
                  have A1 := add64 (z2.getD (ox + k) 0) (ys.getD k 0) r z0 y0 r0 r1
                  have HW := Lib.hid hown
                  have HG := Lib.hid hgb
                  have ny : (k : Int) < (n : Int) + 1 := by omega
                  have nx : (k : Int) < (n : Int) + 2 := by omega
                  clear hA hown hgb q1 q2 q3 q4 q5 hl2 hl1 lY
                  generalize ys.getD k 0 = yd at *
                  generalize z2.getD (ox + k) 0 = zd at *
                  generalize hi (zd + yd + r) = r2 at *
                  generalize lo (zd + yd + r) = s2 at *
                  go_wp2_with fail
                  go_region
                  go_wp2_with fail
                  exact ⟨⟨k + 1, _, _, by omega, by go_num, rfl, ST.out, by first | exact own_set HW.out _ _ | exact own_set (World.ownsRow.drew HW.out) _ _, by first | exact HG.out.set _ _ | exact (HG.out.set _ _).drew⟩, by simp [intOf]; omega⟩
                · obtain rfl : k = n + 1 := by omega
                  have hA2 : AD z1 ys ox ys.length r z2 := by rw [HL.out]; exact hA
                  have cz := owns_at hown (ox + (n + 1)) (by omega)
                  have fz := hown.frozenAt (ox + (n + 1))
                  obtain ⟨z0, z1_⟩ := getD_bd' hA.digs (ox + (n + 1))
                  unfold B64 at z1_
                  obtain ⟨q1, q2, q3, q4, q5⟩ := a_digit (y := 0) (by omega) (by omega) z0 z1_ r0 r1
                  rw [Int.add_zero] at q1 q2 q3 q4 q5
                  have TT := Lib.hid (hA2.top HT.out (r' := hi (z2.getD (ox + (n + 1)) 0 + r)) (s := lo (z2.getD (ox + (n + 1)) 0 + r)) (by omega) (by rw [HL.out]; exact q1) q2 q3 (by omega) (by omega))
                  rw [HL.out] at TT
                  have A1 := add64 (z2.getD (ox + (n + 1)) 0) 0 r z0 (by omega) r0 r1
                  rw [Int.add_zero] at A1
                  have wb : IntKind.u64.wrap (1 - hi (z2.getD (ox + (n + 1)) 0 + r)) = 1 - hi (z2.getD (ox + (n + 1)) 0 + r) := by rw [IntKind.wrap_u64]; omega
                  have HW := Lib.hid hown
                  have HG := Lib.hid hgb
                  have ny : ¬ (n : Int) + 1 < (n : Int) + 1 := by omega
                  have nx : (n : Int) + 1 < (n : Int) + 2 := by omega
                  clear hA hA2 hown hgb q1 q2 q3 hl2 hl1 lY
                  generalize z2.getD (ox + (n + 1)) 0 = zd at *
                  generalize hi (zd + r) = r2 at *
                  generalize lo (zd + r) = s2 at *
                  go_wp2_with fail
                  exact ⟨⟨g - 1, 1 - r2, _, rfl, rfl, by omega, by omega, TT.out, own_set HW.out _ _, by first | exact HG.out.set _ _ | exact (HG.out.set _ _).drew⟩, by simp [intOf]; omega⟩
  · have hd : decide (xm < tt) = false := by simp; omega
    clear DV
    go_region
    rename_i hKc
    refine hKc _ _ ?_
    go_cut [6] (fun s6 wx => ∃ g : Int, s6 = .int .u64 g ∧ Q ≤ g ∧ g ≤ 18446744073709551615 ∧ wx.ownsRow base 109 1 (.slice (some ⟨bx, 0, none⟩) N cap) N (zs.map (Value.int .u64)) ∧ GB w wx bx)
    case first => as_aux_lemma =>
      go_wp2_with fail
      go_meet
      exact ⟨_, rfl, G1.out, Int.le_refl _, EX.out.2, EX.out.1⟩
    case rest => as_aux_lemma =>
      obtain ⟨g, rfl, gQ, gM, hown, hgb⟩ := hcut
      have HWx := Lib.hid hown
      clear hown
      go_wp2_with fail
      go_loopw [7, 8, 46] (fun bv cv iv wr => ∃ (k : Nat) (c b : Int) (zs' : List Int), k ≤ n + 1 ∧ iv = .int .i64 k ∧ cv = .int .u64 c ∧ bv = .int .u64 b ∧ MS zs ys g ox k c b zs' ∧ wr.ownsRow base 109 1 (.slice (some ⟨bx, 0, none⟩) N cap) N (zs'.map (Value.int .u64)) ∧ GB w wr bx) (fun _ _ iv _ => n + 1 - (intOf iv).toNat)
      case atStart => exact ⟨0, 0, 0, zs, Nat.zero_le _, rfl, rfl, rfl, MS.start DZ.out, HWx.out, hgb⟩
      case round =>
        clear HWx hgb
        obtain ⟨k, c, b, zs', hk, rfl, rfl, rfl, hM, hown, hgb⟩ := hrel
        have c0 := hM.c0
        have c1 := hM.c1
        have b0 := hM.b0
        have b1 := hM.b1
        have hlz := hM.len
        have zl := HZL.out
        have lY := HL.out
        by_cases hlt : k < n + 1
        · obtain ⟨by2, oy2, e9, cy⟩ := (hgb.row HY.out HO.out).cellAt k (by omega)
          cases e9
          have cz := owns_at hown (ox + k) (by omega)
          have fz := hown.frozenAt (ox + k)
          obtain ⟨y0, y1⟩ := getD_bd' DY.out k
          obtain ⟨z0, z1⟩ := getD_bd' hM.digs (ox + k)
          unfold B64 at y1 z1
          obtain ⟨q1, q2, q3, q4, q5, q6, q7, q8, q9, qa, qb⟩ := m_digit (g := g) (by omega) (by omega) y0 y1 c0 c1 z0 z1 b0 b1
          have ST := Lib.hid (hM.step (by omega) q1 q4 q5 q6 q2 q3 q7 q8)
          have MU := Lib.hid (fun u => mul64_any g (ys.getD k 0) u (by omega) (by omega) y0 y1)
          have A1 := add64_0 (lo (g * ys.getD k 0)) c q9 c0
          have S1 := sub64 (zs'.getD (ox + k) 0) (lo (lo (g * ys.getD k 0) + c)) b z0 qa qb z1 b0 b1
          have v1 : IntKind.u64.wrap (hi (g * ys.getD k 0) + hi (lo (g * ys.getD k 0) + c)) = hi (g * ys.getD k 0) + hi (lo (g * ys.getD k 0) + c) := by rw [IntKind.wrap_u64]; omega
          have HW := Lib.hid hown
          have HG := Lib.hid hgb
          have ny : (k : Int) < (n : Int) + 1 := by omega
          have nx : (k : Int) < (n : Int) + 2 := by omega
          clear hM hown hgb q1 q2 q3 q4 q5 q6 q7 q8 q9 qa qb hlz zl lY
          generalize ys.getD k 0 = yd at *
          generalize zs'.getD (ox + k) 0 = zd at *
          generalize -hi (zd - lo (lo (g * yd) + c) - b) = b2 at *
          generalize lo (zd - lo (lo (g * yd) + c) - b) = s2 at *
          generalize lo (lo (g * yd) + c) = s1 at *
          generalize hi (lo (g * yd) + c) = o1 at *
          generalize lo (g * yd) = pl at *
          generalize hi (g * yd) = ph at *
          go_wp2_with fail
          refine (MU.out _).mono ?_
          rintro e w' ⟨rfl, rfl⟩
          go_wp2_with fail
          exact ⟨⟨k + 1, _, _, _, by omega, by go_num, rfl, rfl, ST.out, own_set HW.out _ _, by first | exact HG.out.set _ _ | exact (HG.out.set _ _).drew⟩, by simp [intOf]; omega⟩
        · obtain rfl : k = n + 1 := by omega
          have hM2 : MS zs ys g ox ys.length c b zs' := by rw [HL.out]; exact hM
          have cz := owns_at hown (ox + (n + 1)) (by omega)
          have fz := hown.frozenAt (ox + (n + 1))
          obtain ⟨z0, z1⟩ := getD_bd' hM.digs (ox + (n + 1))
          unfold B64 at z1
          obtain ⟨q4, q5, q6, q7, q8⟩ := t_digit c0 c1 z0 z1 b0 b1
          have TT := Lib.hid (hM2.top (b' := -hi (zs'.getD (ox + (n + 1)) 0 - c - b)) (s := lo (zs'.getD (ox + (n + 1)) 0 - c - b)) (by omega) (by rw [HL.out]; exact q4) q5 q6 q7 q8)
          rw [HL.out] at TT
          have S1 := sub64 (zs'.getD (ox + (n + 1)) 0) c b z0 c0 c1 z1 b0 b1
          have HW := Lib.hid hown
          have HG := Lib.hid hgb
          have ny : ¬ (n : Int) + 1 < (n : Int) + 1 := by omega
          have nx : (n : Int) + 1 < (n : Int) + 2 := by omega
          clear hM hM2 hown hgb q4 q5 q6 hlz zl lY
          generalize zs'.getD (ox + (n + 1)) 0 = zd at *
          generalize -hi (zd - c - b) = b2 at *
          generalize lo (zd - c - b) = s2 at *
          go_wp2_with fail
          go_loopw [6, 7] (fun gv bv wr => ∃ (g b : Int) (zs' : List Int), gv = .int .u64 g ∧ bv = .int .u64 b ∧ Q ≤ g ∧ g ≤ 18446744073709551615 ∧ TS zs ys g ox b zs' ∧ wr.ownsRow base 109 1 (.slice (some ⟨bx, 0, none⟩) N cap) N (zs'.map (Value.int .u64)) ∧ GB w wr bx) (fun gv _ _ => (intOf gv).toNat)
          case atStart => exact ⟨g, b2, _, rfl, rfl, gQ, gM, TT.out, own_set HW.out _ _, by first | exact HG.out.set _ _ | exact (HG.out.set _ _).drew⟩
          case round =>
            clear TT HW HG gQ gM
            obtain ⟨g, b, z1, rfl, rfl, gQ, gM, hT, hown, hgb⟩ := hrel
            have b0 := hT.b0
            have b1 := hT.b1
            have hlz := hT.len
            have zl := HZL.out
            have lY := HL.out
            have hwin : ox + (ys.length + 1) ≤ zs.length := by omega
            by_cases hb : b = 0
            · subst hb
              have D := hT.done hwin YP.out (by rw [HL.out, HQ.out]; exact gQ)
              rw [HL.out, HQ.out] at D
              obtain ⟨hgQ, hR⟩ := D
              have FIN : Hid (Stepped zs ys z1 ox) := Lib.hid ⟨hT.len, hT.digs, hT.same, by rw [HL.out]; exact hR⟩
              have HW := Lib.hid hown
              have HG := Lib.hid hgb
              subst hgQ
              clear hT hown hgb hR hlz zl lY hwin
              go_wp2_with fail
              go_ret
              exact ⟨z1, rfl, HG.out, HW.out, FIN.out⟩
            · obtain rfl : b = 1 := by omega
              have gm := hT.more hwin YP.out (by omega)
              rw [HL.out, HQ.out] at gm
              have HT := Lib.hid hT
              have HW := Lib.hid hown
              have HG := Lib.hid hgb
              have wg : IntKind.u64.wrap (g - 1) = g - 1 := by rw [IntKind.wrap_u64]; omega
              have hl1 : z1.length = N := by omega
              have HL1 := Lib.hid hl1
              clear hT hown hgb hlz zl lY hwin hl1
              go_wp2_with fail
              go_loopw [13, 99] (fun rv iv wq => ∃ (k : Nat) (r : Int) (z2 : List Int), k ≤ n + 1 ∧ iv = .int .i64 k ∧ rv = .int .u64 r ∧ AD z1 ys ox k r z2 ∧ wq.ownsRow base 109 1 (.slice (some ⟨bx, 0, none⟩) N cap) N (z2.map (Value.int .u64)) ∧ GB w wq bx) (fun _ iv _ => n + 1 - (intOf iv).toNat)
              case atStart => exact ⟨0, 0, z1, Nat.zero_le _, rfl, rfl, AD.start HT.out.digs, HW.out, HG.out⟩
              case round =>
                clear HW HG
                obtain ⟨k, r, z2, hk, rfl, rfl, hA, hown, hgb⟩ := hrel
                have r0 := hA.r0
                have r1 := hA.r1
                have hl2 := hA.len
                have hl1 := HL1.out
                have lY := HL.out
                by_cases hlt3 : k < n + 1
                · obtain ⟨by3, oy3, e9, cy⟩ := (hgb.row HY.out HO.out).cellAt k (by omega)
                  cases e9
                  have cz := owns_at hown (ox + k) (by omega)
                  have fz := hown.frozenAt (ox + k)
                  obtain ⟨y0, y1⟩ := getD_bd' DY.out k
                  obtain ⟨z0, z1_⟩ := getD_bd' hA.digs (ox + k)
                  unfold B64 at y1 z1_
                  obtain ⟨q1, q2, q3, q4, q5⟩ := a_digit y0 y1 z0 z1_ r0 r1
                  have ST := Lib.hid (hA.step (by omega) q1 q2 q3 q4 q5)
                  have A1 := add64 (z2.getD (ox + k) 0) (ys.getD k 0) r z0 y0 r0 r1
                  have HW := Lib.hid hown
                  have HG := Lib.hid hgb
                  have ny : (k : Int) < (n : Int) + 1 := by omega
                  have nx : (k : Int) < (n : Int) + 2 := by omega
                  clear hA hown hgb q1 q2 q3 q4 q5 hl2 hl1 lY
                  generalize ys.getD k 0 = yd at *
                  generalize z2.getD (ox + k) 0 = zd at *
                  generalize hi (zd + yd + r) = r2 at *
                  generalize lo (zd + yd + r) = s2 at *
                  go_wp2_with fail
                  go_region
                  go_wp2_with fail
                  exact ⟨⟨k + 1, _, _, by omega, by go_num, rfl, ST.out, by first | exact own_set HW.out _ _ | exact own_set (World.ownsRow.drew HW.out) _ _, by first | exact HG.out.set _ _ | exact (HG.out.set _ _).drew⟩, by simp [intOf]; omega⟩
                · obtain rfl : k = n + 1 := by omega
                  have hA2 : AD z1 ys ox ys.length r z2 := by rw [HL.out]; exact hA
                  have cz := owns_at hown (ox + (n + 1)) (by omega)
                  have fz := hown.frozenAt (ox + (n + 1))
                  obtain ⟨z0, z1_⟩ := getD_bd' hA.digs (ox + (n + 1))
                  unfold B64 at z1_
                  obtain ⟨q1, q2, q3, q4, q5⟩ := a_digit (y := 0) (by omega) (by omega) z0 z1_ r0 r1
                  rw [Int.add_zero] at q1 q2 q3 q4 q5
                  have TT := Lib.hid (hA2.top HT.out (r' := hi (z2.getD (ox + (n + 1)) 0 + r)) (s := lo (z2.getD (ox + (n + 1)) 0 + r)) (by omega) (by rw [HL.out]; exact q1) q2 q3 (by omega) (by omega))
                  rw [HL.out] at TT
                  have A1 := add64 (z2.getD (ox + (n + 1)) 0) 0 r z0 (by omega) r0 r1
                  rw [Int.add_zero] at A1
                  have wb : IntKind.u64.wrap (1 - hi (z2.getD (ox + (n + 1)) 0 + r)) = 1 - hi (z2.getD (ox + (n + 1)) 0 + r) := by rw [IntKind.wrap_u64]; omega
                  have HW := Lib.hid hown
                  have HG := Lib.hid hgb
                  have ny : ¬ (n : Int) + 1 < (n : Int) + 1 := by omega
                  have nx : (n : Int) + 1 < (n : Int) + 2 := by omega
                  clear hA hA2 hown hgb q1 q2 q3 hl2 hl1 lY
                  generalize z2.getD (ox + (n + 1)) 0 = zd at *
                  generalize hi (zd + r) = r2 at *
                  generalize lo (zd + r) = s2 at *
                  go_wp2_with fail
                  exact ⟨⟨g - 1, 1 - r2, _, rfl, rfl, by omega, by omega, TT.out, own_set HW.out _ _, by first | exact HG.out.set _ _ | exact (HG.out.set _ _).drew⟩, by simp [intOf]; omega⟩
end Go.Proofs.Ytjmecongccjcgaa
