/- Layer 26, the plain law: a definition may be, as the page asks it, just if it is good. No function of the program is named here. -/
import Derived.Test.YtgokenbojppnhaaDoorDefText
namespace Go.Proofs.YtgokenbojppnhaaDoor
mutual
/-- How many layers, with those of bodies. -/
def Lay.count : Lay → Nat
  | .mk _ b => countS b + 1
def countS : List Lay → Nat
  | [] => 0
  | l :: ls => l.count + countS ls
end
mutual
def Lay.deepest (left : Int) : Lay → Bool
  | .mk _ b => b.isEmpty || (decide (0 ≤ left - 1) && decide (b.length ≤ 64) && deepA (left - 1) b)
def deepA (left : Int) : List Lay → Bool
  | [] => true
  | l :: ls => l.deepest left && deepA left ls
end
def deepS (left : Int) (L : List Lay) : Bool := decide (0 ≤ left) && decide (L.length ≤ 64) && deepA left L
mutual
def Lay.okL (deep : Nat) : Lay → Bool
  | .mk f b => if f.kind = 13 then decide (deep < 4) && decide (f = LayF.kind0 13) && okA (deep + 1) b else match kindT f.kind with
      | some k => okF k f && b.isEmpty
      | none => false
def okA (deep : Nat) : List Lay → Bool
  | [] => true
  | l :: ls => l.okL deep && okA deep ls
end
def mayD (d : DefL) : Bool := decide (1 ≤ d.input.length ∧ d.input.length ≤ 3) && decide (d.loss = 1 ∨ d.loss = 2) && deepS 4 d.layers && d.input.all (fun x => decide (1 ≤ x ∧ x ≤ 4096)) && decide (countS d.layers ≤ 64) && okA 0 d.layers
mutual
theorem good_count : ∀ (l : Lay) (deep left : Nat), l.good deep left = if l.okL deep = true ∧ l.count ≤ left then some (left - l.count) else none
  | .mk f b, deep, left => by
    rw [Lay.good, Lay.okL, Lay.count]
    by_cases h0 : left = 0
    · rw [if_pos h0, if_neg (by omega)]
    rw [if_neg h0]
    by_cases h1 : f.kind = 13
    · rw [if_pos h1, if_pos h1, goods_count b (deep + 1) (left - 1)]
      by_cases h2 : deep < 4 ∧ f = LayF.kind0 13
      · rw [if_pos h2, decide_eq_true h2.1, decide_eq_true h2.2]
        simp only [Bool.true_and]
        by_cases h3 : okA (deep + 1) b = true ∧ countS b ≤ left - 1
        · rw [if_pos h3, if_pos ⟨h3.1, by omega⟩]
          congr 1
          omega
        · rw [if_neg h3, if_neg (fun h => h3 ⟨h.1, by omega⟩)]
      · rw [if_neg h2, if_neg]
        rintro ⟨h3, -⟩
        simp only [Bool.and_eq_true, decide_eq_true_eq] at h3
        exact h2 h3.1
    · rw [if_neg h1, if_neg h1]
      cases kindT f.kind with
      | none => simp
      | some k =>
        simp only [Bool.and_eq_true]
        by_cases h2 : okF k f = true ∧ b.isEmpty = true
        · have hb : b = [] := List.isEmpty_iff.1 h2.2
          subst hb
          rw [if_pos h2, if_pos ⟨h2, by simp [countS]; omega⟩]
          simp [countS]
        · rw [if_neg h2, if_neg (fun h => h2 h.1)]
theorem goods_count : ∀ (L : List Lay) (deep left : Nat), goodS deep left L = if okA deep L = true ∧ countS L ≤ left then some (left - countS L) else none
  | [], deep, left => by rw [goodS, okA, countS]; simp
  | l :: ls, deep, left => by
    rw [goodS, okA, countS, good_count l deep left]
    by_cases h : l.okL deep = true ∧ l.count ≤ left
    · rw [if_pos h, h.1, Bool.true_and]
      simp only
      rw [goods_count ls deep (left - l.count)]
      by_cases h2 : okA deep ls = true ∧ countS ls ≤ left - l.count
      · rw [if_pos h2, if_pos ⟨h2.1, by omega⟩]
        congr 1
        omega
      · rw [if_neg h2, if_neg (fun h3 => h2 ⟨h3.1, by omega⟩)]
    · rw [if_neg h, if_neg]
      rintro ⟨h2, h3⟩
      rw [Bool.and_eq_true] at h2
      exact h ⟨h2.1, by omega⟩
end
theorem count_len : ∀ L : List Lay, L.length ≤ countS L
  | [] => by simp
  | .mk f b :: ls => by
    have := count_len ls
    rw [countS, Lay.count, List.length_cons]
    omega
mutual
theorem ok_deep : ∀ (l : Lay) (deep : Nat), l.okL deep = true → l.count ≤ 64 → l.deepest ((4 : Int) - deep) = true
  | .mk f b, deep, h, hc => by
    rw [Lay.okL] at h
    rw [Lay.deepest]
    rw [Lay.count] at hc
    by_cases h1 : f.kind = 13
    · rw [if_pos h1] at h
      simp only [Bool.and_eq_true, decide_eq_true_eq] at h
      have hl := count_len b
      have hd := oks_deep b (deep + 1) h.2 (by omega)
      rw [show (4 : Int) - deep - 1 = (4 : Int) - ((deep + 1 : Nat) : Int) by omega, hd, decide_eq_true (by omega), decide_eq_true (by omega)]
      simp
    · rw [if_neg h1] at h
      cases hk : kindT f.kind with
      | none => rw [hk] at h; simp at h
      | some k =>
        rw [hk] at h
        simp only [Bool.and_eq_true] at h
        rw [h.2, Bool.true_or]
theorem oks_deep : ∀ (L : List Lay) (deep : Nat), okA deep L = true → countS L ≤ 64 → deepA ((4 : Int) - deep) L = true
  | [], _, _, _ => by rw [deepA]
  | l :: ls, deep, h, hc => by
    rw [okA, Bool.and_eq_true] at h
    rw [countS] at hc
    rw [deepA, ok_deep l deep h.1 (by omega), oks_deep ls deep h.2 (by omega)]
    rfl
end
theorem may_good (d : DefL) : mayD d = goodD d := by
  unfold mayD goodD
  rw [goods_count]
  by_cases h : okA 0 d.layers = true ∧ countS d.layers ≤ 64
  · rw [if_pos h, h.1, decide_eq_true h.2]
    have : deepS 4 d.layers = true := by
      unfold deepS
      have h1 := count_len d.layers
      have h2 := oks_deep d.layers 0 h.1 h.2
      rw [show (4 : Int) - ((0 : Nat) : Int) = 4 by omega] at h2
      rw [h2, decide_eq_true (by omega), decide_eq_true (by omega)]
      rfl
    rw [this]
    simp
  · rw [if_neg h]
    simp only [Option.isSome_none, Bool.and_false]
    by_cases h1 : okA 0 d.layers = true
    · have : ¬ countS d.layers ≤ 64 := fun h2 => h ⟨h1, h2⟩
      rw [decide_eq_false this]
      simp
    · rw [Bool.not_eq_true] at h1
      rw [h1, Bool.and_false]
end Go.Proofs.YtgokenbojppnhaaDoor
