/- Generators: Good, May, own, Below; copied, compared. The generator of 256 bits: of R^4 + 4 draws, one behind the other, one is not among the last R numbers of 64 bits, R at most 24000000000 (2^34.4): the plain law. Draws as functions of the generator: the plain law of rng.Draw for few numbers. seed.turns: what its iterator promises. -/
import Derived.Test.YtkegefnpmijfiaaGreatQRand
import Derived.Test.YtkegefnpmijfiaaGreatQGbI
import Derived.Test.YtkegefnpmijfiaaGreatQStEq
import Derived.Test.YtkegefnpmijfiaaGreatQPeriodB
import Derived.Test.YtkegefnpmijfiaaGreatQPeriodC
import Derived.Test.YtkegefnpmijfiaaGreatQDrawG
namespace Go.Proofs.YtkegefnpmijfiaaGreat
open Go.RowKit
attribute [local go_sem ↓] Go.wp_at_zero Go.wp_at_succ
def stz (s : St) : Bool := decide (iv s.a = 0) && decide (iv s.b = 0) && decide (iv s.c = 0) && decide (iv s.d = 0)
def goodG (g : Gen) : Bool := decide (g.script.length ≤ 4096) && !stz g.st
theorem gen_len {g : Gen} (h : 4096 < g.script.length) : goodG g = false := by
  unfold goodG; rw [show decide (g.script.length ≤ 4096) = false by simp; omega]; rfl
theorem goodG_of {g : Gen} (h : g.script.length ≤ 4096) : goodG g = !stz g.st := by simp [goodG, h]
set_option maxRecDepth 100000 in
set_option maxHeartbeats 1000000 in
theorem good_rand {v : Value} {g : Gen} {w : World} (h : RandAt w v g) (hg : goodG g = true) :
    Calls Tryz.prog 118 #[v] w fun e w' => e = .returned (.bool true) ∧ Ext w w' := by
  obtain ⟨a, c, rfl, hr⟩ := h
  have hl : g.script.length ≤ 4096 := by simp [goodG] at hg; omega
  have hz : stz g.st = false := by rw [goodG_of hl] at hg; simpa using hg
  obtain ⟨sc, ⟨A, B, C, D⟩⟩ := g
  simp only at hr hl hz ⊢
  obtain ⟨a', cap, e, h1, h2, h3⟩ := hr
  cases e
  unfold maxLen at h2
  clear h3 hg
  simp only [stz] at hz
  generalize iv A = x0 at *
  generalize iv B = x1 at *
  generalize iv C = x2 at *
  generalize iv D = x3 at *
  have hzz : (!((x0 == (0 : Int)) && (x1 == (0 : Int)) && (x2 == (0 : Int)) && (x3 == (0 : Int)))) = true := by
    by_cases a0 : x0 = 0 <;> by_cases a1 : x1 = 0 <;> by_cases a2 : x2 = 0 <;> by_cases a3 : x3 = 0 <;> simp_all
  have R := fun (w : World) => run_ne4 w x0 x1 x2 x3 0 0 0 0
  rw [show (!((x0 == (0 : Int)) && (x1 == (0 : Int)) && (x2 == (0 : Int)) && (x3 == (0 : Int)))) = true from hzz] at R
  clear hz hzz
  go_enter Tryz.func118, Tryz.ntmps118
  go_wp2
  go_ret
  exact ⟨rfl, Ext.q⟩
set_option maxHeartbeats 1000000 in
theorem may_rand {v : Value} {g : Gen} {w : World} (h : RandAt w v g) :
    Calls Tryz.prog 32 #[v] w fun e w' => e = .returned (.bool (goodG g)) ∧ Ext w w' := by
  obtain ⟨a, c, rfl, hr⟩ := h
  rcases Nat.lt_or_ge 4096 g.script.length with hl | hl
  · have G := Lib.hid (gen_len hl)
    obtain ⟨sc, ⟨A, B, C, D⟩⟩ := g
    simp only at hr hl ⊢
    obtain ⟨a', cap, e, h1, h2, h3⟩ := hr
    cases e
    unfold maxLen at h2
    clear h3
    go_enter Tryz.func32, Tryz.ntmps32
    go_wp2
    go_ret
    exact ⟨by rw [G.out]; rfl, Ext.q⟩
  · have G0 := goodG_of hl
    obtain ⟨sc, ⟨A, B, C, D⟩⟩ := g
    simp only at hr hl G0 ⊢
    obtain ⟨a', cap, e, h1, h2, h3⟩ := hr
    cases e
    unfold maxLen at h2
    clear h3
    simp only [stz] at G0
    generalize iv A = x0 at *
    generalize iv B = x1 at *
    generalize iv C = x2 at *
    generalize iv D = x3 at *
    by_cases h0 : x0 = 0
    · by_cases h1' : x1 = 0
      · by_cases h2' : x2 = 0
        · by_cases h3' : x3 = 0
          · have G : Hid (goodG ⟨sc, ⟨A, B, C, D⟩⟩ = false) := Lib.hid (by rw [G0]; simp [h0, h1', h2', h3'])
            clear G0
            subst h0 h1' h2' h3'
            go_enter Tryz.func32, Tryz.ntmps32
            go_wp2
            go_ret
            exact ⟨by rw [G.out]; rfl, Ext.q⟩
          · have G : Hid (goodG ⟨sc, ⟨A, B, C, D⟩⟩ = true) := Lib.hid (by rw [G0]; simp [h3'])
            have e3 : (x3 != 0) = true := by rw [bne_iff_ne]; exact h3'
            clear G0 h3'
            subst h0 h1' h2'
            go_enter Tryz.func32, Tryz.ntmps32
            go_wp2
            go_ret
            exact ⟨by rw [G.out]; rfl, Ext.q⟩
        · have G : Hid (goodG ⟨sc, ⟨A, B, C, D⟩⟩ = true) := Lib.hid (by rw [G0]; simp [h2'])
          have e3 : (x2 != 0) = true := by rw [bne_iff_ne]; exact h2'
          clear G0 h2'
          subst h0 h1'
          go_enter Tryz.func32, Tryz.ntmps32
          go_wp2
          go_ret
          exact ⟨by rw [G.out]; rfl, Ext.q⟩
      · have G : Hid (goodG ⟨sc, ⟨A, B, C, D⟩⟩ = true) := Lib.hid (by rw [G0]; simp [h1'])
        have e3 : (x1 != 0) = true := by rw [bne_iff_ne]; exact h1'
        clear G0 h1'
        subst h0
        go_enter Tryz.func32, Tryz.ntmps32
        go_wp2
        go_ret
        exact ⟨by rw [G.out]; rfl, Ext.q⟩
    · have G : Hid (goodG ⟨sc, ⟨A, B, C, D⟩⟩ = true) := Lib.hid (by rw [G0]; simp [h0])
      have e3 : (x0 != 0) = true := by rw [bne_iff_ne]; exact h0
      clear G0 h0
      go_enter Tryz.func32, Tryz.ntmps32
      go_wp2
      go_ret
      exact ⟨by rw [G.out]; rfl, Ext.q⟩
end Go.Proofs.YtkegefnpmijfiaaGreat
namespace Go.Proofs.YtkegefnpmijfiaaGreat
theorem no_small : ∀ x, x < 1025 → 2 ≤ x → (2 ^ 128 + 1) % x ≠ 0 := by decide +kernel
/-- A state that comes back comes back late. -/
theorem period_far {s : St} (hs : s ≠ .zero) {d : Nat} (hd : 0 < d) (h : it d s = s) : 2 ^ 138 < d := by
  apply Nat.lt_of_not_le
  intro hle
  have hg := it_gcd d MM h (it_all s)
  have gd := Nat.gcd_dvd_left d MM
  have gm := Nat.gcd_dvd_right d MM
  generalize Nat.gcd d MM = g at hg gd gm
  have d3 := part_dvd prm_3 (by decide +kernel) inv_3 gm hs hg
  have d5 := part_dvd prm_5 (by decide +kernel) inv_5 gm hs hg
  have d17 := part_dvd prm_17 (by decide +kernel) inv_17 gm hs hg
  have d257 := part_dvd prm_257 (by decide +kernel) inv_257 gm hs hg
  have d65537 := part_dvd prm_65537 (by decide +kernel) inv_65537 gm hs hg
  have d641 := part_dvd prm_641 (by decide +kernel) inv_641 gm hs hg
  have d6700417 := part_dvd prm_6700417 (by decide +kernel) inv_6700417 gm hs hg
  have d274177 := part_dvd prm_274177 (by decide +kernel) inv_274177 gm hs hg
  have d67280421310721 := part_dvd prm_67280421310721 (by decide +kernel) inv_67280421310721 gm hs hg
  have c5 : 15 ∣ g := (show Nat.Coprime 3 5 by decide +kernel).mul_dvd_of_dvd_of_dvd d3 d5
  have c17 : 255 ∣ g := (show Nat.Coprime 15 17 by decide +kernel).mul_dvd_of_dvd_of_dvd c5 d17
  have c257 : 65535 ∣ g := (show Nat.Coprime 255 257 by decide +kernel).mul_dvd_of_dvd_of_dvd c17 d257
  have c65537 : 4294967295 ∣ g := (show Nat.Coprime 65535 65537 by decide +kernel).mul_dvd_of_dvd_of_dvd c257 d65537
  have c641 : 2753074036095 ∣ g := (show Nat.Coprime 4294967295 641 by decide +kernel).mul_dvd_of_dvd_of_dvd c65537 d641
  have c6700417 : 18446744073709551615 ∣ g := (show Nat.Coprime 2753074036095 6700417 by decide +kernel).mul_dvd_of_dvd_of_dvd c641 d6700417
  have c274177 : 5057672949897463733145855 ∣ g := (show Nat.Coprime 18446744073709551615 274177 by decide +kernel).mul_dvd_of_dvd_of_dvd c6700417 d274177
  have c67280421310721 : 340282366920938463463374607431768211455 ∣ g := (show Nat.Coprime 5057672949897463733145855 67280421310721 by decide +kernel).mul_dvd_of_dvd_of_dvd c274177 d67280421310721
  have hA : 2 ^ 128 - 1 ∣ g := c67280421310721
  clear d3 d5 d17 d257 d65537 d641 d6700417 d274177 d67280421310721 c5 c17 c257 c65537 c641 c6700417 c274177 c67280421310721
  obtain ⟨x, hx⟩ := hA
  have hgd : g ≤ d := Nat.le_of_dvd hd gd
  have hg0 : 0 < g := Nat.pos_of_dvd_of_pos gd hd
  have hx1 : x < 1025 := by omega
  have hx0 : 0 < x := by
    rcases Nat.eq_zero_or_pos x with h | h
    · subst h; omega
    · exact h
  have hdx : x ∣ 2 ^ 128 + 1 := by
    have e : MM = (2 ^ 128 - 1) * (2 ^ 128 + 1) := by decide +kernel
    rw [hx, e] at gm
    exact Nat.dvd_of_mul_dvd_mul_left (by decide) gm
  by_cases h2 : 2 ≤ x
  · exact no_small x hx1 h2 (Nat.mod_eq_zero_of_dvd hdx)
  · obtain rfl : x = 1 := by omega
    rw [Nat.mul_one] at hx
    rw [hx] at hg
    exact hs (no_part (by decide +kernel) inv_last hg)
theorem pigeon : ∀ (n : Nat) (f : Nat → Nat), (∀ i, i ≤ n → f i < n) → ∃ i j, i < j ∧ j ≤ n ∧ f i = f j
  | 0, f, h => absurd (h 0 (Nat.le_refl _)) (by omega)
  | n + 1, f, h => by
    by_cases hx : ∃ i, i ≤ n ∧ f i = f (n + 1)
    · obtain ⟨i, h1, h2⟩ := hx
      exact ⟨i, n + 1, by omega, Nat.le_refl _, h2⟩
    · have hne : ∀ i, i ≤ n → f i ≠ f (n + 1) := fun i h1 h2 => hx ⟨i, h1, h2⟩
      have hv := h (n + 1) (Nat.le_refl _)
      obtain ⟨i, j, h1, h2, h3⟩ := pigeon n (fun i => if f i = n then f (n + 1) else f i) (fun i hi => by
        have a := h i (by omega)
        have b := hne i hi
        show (if f i = n then f (n + 1) else f i) < n
        split <;> omega)
      refine ⟨i, j, h1, by omega, ?_⟩
      have a := hne i (by omega)
      have b := hne j (by omega)
      have h3 : (if f i = n then f (n + 1) else f i) = (if f j = n then f (n + 1) else f j) := h3
      split at h3 <;> split at h3 <;> omega
theorem it_zero : ∀ n, it n .zero = .zero
  | 0 => rfl
  | n + 1 => by rw [it, it_zero n, St.next_zero]
theorem it_inj : ∀ (n : Nat) {s t : St}, it n s = it n t → s = t
  | 0, _, _, h => h
  | n + 1, _, _, h => it_inj n (next_inj h)
theorem it_ne {s : St} (h : s ≠ .zero) (n : Nat) : it n s ≠ .zero := fun e => h (it_inj n (e.trans (it_zero n).symm))
theorem xor_out {a b c d : BitVec 64} (h : a ^^^ (c ^^^ b) = a ^^^ (d ^^^ b)) : c = d := by
  apply BitVec.eq_of_getLsbD_eq
  intro i _
  have h := congrArg (fun z => z.getLsbD i) h
  simp only [BitVec.getLsbD_xor] at h
  revert h
  generalize a.getLsbD i = x1, b.getLsbD i = x2, c.getLsbD i = x3, d.getLsbD i = x4
  revert x1 x2 x3 x4
  decide
/-- Four draws in a row tell the state. -/
theorem four_tell {s t : St} (h0 : s.b = t.b) (h1 : s.next.b = t.next.b) (h2 : s.next.next.b = t.next.next.b) (h3 : s.next.next.next.b = t.next.next.next.b) : s = t := by
  have a1 : s.next.a = t.next.a := by rw [next_a s, next_a t, h0, h2]
  have a2 : s.next.next.a = t.next.next.a := by rw [next_a s.next, next_a t.next, h1, h3]
  have hc : s.next.c ^^^ s.next.a = t.next.c ^^^ t.next.a := by
    have x := x4 s.next.a s.next.b s.next.c s.next.next.b rfl
    have y := x4 t.next.a t.next.b t.next.c t.next.next.b rfl
    rw [x, y, h1, h2]
  have hcc : s.next.c = t.next.c := by
    rw [a1] at hc
    have := congrArg (· ^^^ t.next.a) hc
    simpa [BitVec.xor_assoc] using this
  have hd : s.next.d = t.next.d := by
    have x : s.next.next.a = s.next.a ^^^ (s.next.d ^^^ s.next.b) := rfl
    have y : t.next.next.a = t.next.a ^^^ (t.next.d ^^^ t.next.b) := rfl
    rw [a2, y, a1, h1] at x
    exact (xor_out x).symm
  exact next_inj (St.ext4 a1 h1 hcc hd)
theorem quad {R a b c d a' b' c' d' : Nat} (h1 : a < R) (h2 : b < R) (h3 : c < R) (h4 : d < R) (_k1 : a' < R) (k2 : b' < R) (k3 : c' < R) (k4 : d' < R) :
    ((a * R + b) * R + c) * R + d < R * R * R * R ∧ (((a * R + b) * R + c) * R + d = ((a' * R + b') * R + c') * R + d' → a = a' ∧ b = b' ∧ c = c' ∧ d = d') := by
  have st : ∀ {x y M : Nat}, x < M → y < R → x * R + y < M * R := fun {x y M} hx hy => by
    have := Nat.mul_le_mul_right R (show x + 1 ≤ M from hx)
    rw [Nat.add_mul, Nat.one_mul] at this
    omega
  have eq : ∀ {x y x' y' : Nat}, y < R → y' < R → x * R + y = x' * R + y' → x = x' ∧ y = y' := fun {x y x' y'} hy hy' e => by
    have R0 : 0 < R := by omega
    have e1 : (x * R + y) / R = x := by rw [Nat.add_comm, Nat.add_mul_div_right _ _ R0, Nat.div_eq_of_lt hy]; omega
    have e2 : (x' * R + y') / R = x' := by rw [Nat.add_comm, Nat.add_mul_div_right _ _ R0, Nat.div_eq_of_lt hy']; omega
    have : x = x' := by rw [← e1, ← e2, e]
    subst this
    exact ⟨rfl, by omega⟩
  refine ⟨st (st (st h1 h2) h3) h4, fun e => ?_⟩
  obtain ⟨e, r4⟩ := eq h4 k4 e
  obtain ⟨e, r3⟩ := eq h3 k3 e
  obtain ⟨e, r2⟩ := eq h2 k2 e
  exact ⟨e, r2, r3, r4⟩
/-- Of so many draws, one behind the other, one is below 2^64 - R. -/
theorem not_all_last {R : Nat} (hR : R ≤ 24000000000) {s : St} (hs : s ≠ .zero) (k : Nat) (h : ∀ j, j < k → 18446744073709551616 - R ≤ (it j s).out.toNat) : k ≤ R * R * R * R + 4 := by
  apply Nat.le_of_not_lt
  intro hk
  have hlt : ∀ j, j < k → (it j s).out.toNat - (18446744073709551616 - R) < R := fun j hj => by
    have a := h j hj
    have b := (it j s).out.isLt
    omega
  obtain ⟨i, j, hij, hj, he⟩ := pigeon (R * R * R * R) (fun i => ((((it i s).out.toNat - (18446744073709551616 - R)) * R + ((it (i + 1) s).out.toNat - (18446744073709551616 - R))) * R + ((it (i + 2) s).out.toNat - (18446744073709551616 - R))) * R + ((it (i + 3) s).out.toNat - (18446744073709551616 - R))) (fun i hi =>
    (quad (hlt i (by omega)) (hlt (i + 1) (by omega)) (hlt (i + 2) (by omega)) (hlt (i + 3) (by omega)) (hlt i (by omega)) (hlt (i + 1) (by omega)) (hlt (i + 2) (by omega)) (hlt (i + 3) (by omega))).1)
  obtain ⟨e0, e1, e2, e3⟩ := (quad (hlt i (by omega)) (hlt (i + 1) (by omega)) (hlt (i + 2) (by omega)) (hlt (i + 3) (by omega)) (hlt j (by omega)) (hlt (j + 1) (by omega)) (hlt (j + 2) (by omega)) (hlt (j + 3) (by omega))).2 he
  have hb : ∀ m n, m < k → n < k → (it m s).out.toNat - (18446744073709551616 - R) = (it n s).out.toNat - (18446744073709551616 - R) → (it m s).b = (it n s).b := fun m n hm hn e => by
    have a := h m hm
    have b := h n hn
    rw [← un_out, ← un_out, BitVec.eq_of_toNat_eq (show (it m s).out.toNat = (it n s).out.toNat by omega)]
  have hst : it i s = it j s := four_tell (hb i j (by omega) (by omega) e0) (hb (i + 1) (j + 1) (by omega) (by omega) e1) (hb (i + 2) (j + 2) (by omega) (by omega) e2) (hb (i + 3) (j + 3) (by omega) (by omega) e3)
  have hback : it (j - i) (it i s) = it i s := by
    rw [← it_add, show j - i + i = j by omega, hst]
  have far := period_far (it_ne hs i) (show 0 < j - i by omega) hback
  have r2 := Nat.mul_le_mul hR hR
  have r3 := Nat.mul_le_mul r2 hR
  have r4 := Nat.mul_le_mul r3 hR
  omega
end Go.Proofs.YtkegefnpmijfiaaGreat
namespace Go.Proofs.YtkegefnpmijfiaaGreat
open Go.RowKit
noncomputable def Gen.taken (g : Gen) (n : Int) : Nat := leastOf (fun k => ¬ Refused n (g.val k))
/-- A draw below n; the generator behind it. -/
noncomputable def Gen.below (g : Gen) (n : Int) : Int := g.val (g.taken n) % n
noncomputable def Gen.past (g : Gen) (n : Int) : Gen := g.after (g.taken n + 1)
theorem taken_eq {g : Gen} {n : Int} {k : Nat} (h1 : ∀ j, j < k → Refused n (g.val j)) (h2 : ¬ Refused n (g.val k)) : g.taken n = k := by
  unfold Gen.taken
  have h := leastOf_spec (p := fun k => ¬ Refused n (g.val k)) ⟨k, h2⟩
  have a := h.2 k h2
  rcases Nat.lt_or_ge (leastOf fun k => ¬ Refused n (g.val k)) k with hlt | hge
  · exact absurd (h1 _ hlt) h.1
  · omega
/-- A generator that may be. -/
def Gen.Fine (g : Gen) : Prop := goodG g = true ∧ ∀ x ∈ g.script, 0 ≤ x
theorem bit_zero {b : BitVec 64} (h : b = b <<< 17) : b = 0 := by
  apply BitVec.eq_of_getLsbD_eq
  intro i hi
  induction i using Nat.strongRecOn with
  | ind i ih =>
    rw [h, BitVec.getLsbD_shiftLeft]
    by_cases h17 : i < 17
    · simp [h17]
    · have := ih (i - 17) (by omega) (by omega)
      rw [this]; simp
theorem rol45_zero {x : BitVec 64} (h : rol x 45 = 0) : x = 0 := by
  apply BitVec.eq_of_getLsbD_eq
  intro i hi
  unfold rol at h
  have hx : ∀ k, 64 ≤ k → x.getLsbD k = false := fun k hk => BitVec.getLsbD_of_ge _ _ hk
  rcases Nat.lt_or_ge i 19 with h1 | h1
  · have := congrArg (fun z => z.getLsbD (i + 45)) h
    simp only [BitVec.getLsbD_or, BitVec.getLsbD_shiftLeft, BitVec.getLsbD_ushiftRight, hx (64 - 45 + (i + 45)) (by omega), Bool.or_false] at this
    rw [show decide (i + 45 < 64) = true by simp; omega, show decide (i + 45 < 45) = false by simp, show i + 45 - 45 = i by omega] at this
    simpa using this
  · have := congrArg (fun z => z.getLsbD (i - 19)) h
    simp only [BitVec.getLsbD_or, BitVec.getLsbD_shiftLeft, BitVec.getLsbD_ushiftRight] at this
    rw [show decide (i - 19 < 45) = true by simp; omega, show 64 - 45 + (i - 19) = i by omega] at this
    simpa using this
theorem iv_zero {x : BitVec 64} : iv x = 0 ↔ x = 0 := by
  unfold iv
  constructor
  · intro h; apply BitVec.eq_of_toNat_eq; simp; omega
  · rintro rfl; rfl
theorem xor_zero {x y : BitVec 64} (h : x ^^^ y = 0) : x = y := by
  have := congrArg (fun z => z ^^^ y) h
  simpa [BitVec.xor_assoc, BitVec.xor_self] using this
theorem next_nz {s : St} (h : stz s = false) : stz s.next = false := by
  obtain ⟨a, b, c, d⟩ := s
  cases hz : stz (St.next ⟨a, b, c, d⟩)
  · rfl
  · exfalso
    simp only [stz, St.next, Bool.and_eq_true, decide_eq_true_eq, iv_zero] at hz
    obtain ⟨⟨⟨h1, h2⟩, h3⟩, h4⟩ := hz
    have e1 := rol45_zero h4
    rw [e1] at h1
    have e2 : d = b := xor_zero e1
    have e3 : a = 0 := by simpa using h1
    subst e3
    have e4 : b = c := by simpa using xor_zero h2
    subst e4
    have e5 : b = b <<< 17 := by simpa using xor_zero h3
    have e6 := bit_zero e5
    subst e6
    subst e2
    simp [stz, iv] at h
theorem Gen.step_fine {g : Gen} (h : g.Fine) : g.step.2.Fine := by
  obtain ⟨sc, st⟩ := g
  obtain ⟨h1, h2⟩ := h
  simp only [goodG, Bool.and_eq_true, decide_eq_true_eq] at h1
  cases sc with
  | nil =>
    refine ⟨?_, fun x hx => by simp [Gen.step] at hx⟩
    simp only [goodG, Gen.step]
    have := next_nz (s := st) (by simpa using h1.2)
    simp [this]
  | cons x r =>
    refine ⟨?_, fun y hy => h2 y (List.mem_cons_of_mem _ hy)⟩
    simp only [goodG, Gen.step, Bool.and_eq_true]
    have h3 : (x :: r).length ≤ 4096 := h1.1
    rw [List.length_cons] at h3
    exact ⟨decide_eq_true (by omega), h1.2⟩
theorem Gen.after_fine {g : Gen} (h : g.Fine) (k : Nat) : (g.after k).Fine := by
  induction k with
  | zero => exact h
  | succ k ih => exact Gen.step_fine ih
theorem Gen.val_nn {g : Gen} (h : g.Fine) (k : Nat) : 0 ≤ g.val k := by
  have hf := Gen.after_fine h k
  unfold Gen.val
  obtain ⟨-, h2⟩ := hf
  generalize g.after k = q at h2 ⊢
  obtain ⟨sc, st⟩ := q
  cases sc with
  | nil => exact iv_nn _
  | cons x r => exact h2 x (List.mem_cons_self ..)
theorem Gen.past_fine {g : Gen} (h : g.Fine) (n : Int) : (g.past n).Fine := Gen.after_fine h _
theorem Gen.Fine.len {g : Gen} (h : g.Fine) : g.script.length ≤ 4096 := by
  have := h.1
  simp only [goodG, Bool.and_eq_true, decide_eq_true_eq] at this
  exact this.1
theorem Gen.after_script (g : Gen) (k : Nat) : (g.after k).script = g.script.drop k := by
  induction k with
  | zero => simp [Gen.after]
  | succ k ih =>
    simp only [Gen.after]
    generalize g.after k = q at ih ⊢
    obtain ⟨sc, st⟩ := q
    simp only at ih
    rw [show k + 1 = 1 + k by omega, Nat.add_comm 1 k, ← List.drop_drop, ← ih]
    cases sc with
    | nil => simp [Gen.step]
    | cons x r => simp [Gen.step]
theorem Gen.after_state (g : Gen) (k : Nat) (h : g.script.length ≤ k) : g.val k = iv (g.after k).st.out ∧ (g.after (k + 1)).st = (g.after k).st.next := by
  have := g.after_script k
  rw [List.drop_eq_nil_of_le h] at this
  simp only [Gen.val, Gen.after]
  generalize g.after k = q at this ⊢
  obtain ⟨sc, st⟩ := q
  simp only at this
  subst this
  exact ⟨rfl, rfl⟩
/-- Few enough that a draw ends. -/
def Few (n : Int) : Prop := 0 < n ∧ n ≤ 24000000000
theorem few_last {n : Int} {s : St} (h : Few n) (hr : Refused n (iv s.out)) : 18446744073709551616 - 24000000000 ≤ s.out.toNat := by
  obtain ⟨-, h2⟩ := hr
  have h3 := (left64_bd h.1).2
  have h4 := h.2
  unfold iv at h2
  generalize s.out.toNat = z at *
  omega
theorem stz_zero {s : St} (h : stz s = false) : s ≠ .zero := by
  rintro rfl
  exact absurd h (by decide)
theorem Gen.after_it (g : Gen) (j : Nat) : (g.after (g.script.length + j)).st = it j (g.after g.script.length).st := by
  induction j with
  | zero => rfl
  | succ j ih => rw [← Nat.add_assoc, (g.after_state _ (by omega)).2, ih]; rfl
/-- How many draws one draw takes at most. -/
def mostDraws : Nat := 24000000000 * 24000000000 * 24000000000 * 24000000000 + 4
theorem few_bound {g : Gen} {n : Int} (hf : g.Fine) (h : Few n) (k : Nat) (hk : ∀ j, j < k → Refused n (g.val j)) : k ≤ g.script.length + mostDraws := by
  have hz : (g.after g.script.length).st ≠ .zero := by
    have := (Gen.after_fine hf g.script.length).1
    simp only [goodG, Bool.and_eq_true] at this
    exact stz_zero (by simpa using this.2)
  have := not_all_last (R := 24000000000) (Nat.le_refl _) hz (k - g.script.length) (fun j hj => by
    rw [← g.after_it j]
    have := hk (g.script.length + j) (by omega)
    rw [(g.after_state (g.script.length + j) (by omega)).1] at this
    exact few_last h this)
  unfold mostDraws
  omega
theorem Gen.below_bd (g : Gen) {n : Int} (h : 0 < n) : 0 ≤ g.below n ∧ g.below n < n := ⟨Int.emod_nonneg _ (by omega), Int.emod_lt_of_pos _ h⟩
theorem few_of {n : Int} (h0 : 0 < n) (h1 : n ≤ 24000000000) : Few n := ⟨h0, h1⟩
theorem few_100 : Few 100 := ⟨by decide, by decide⟩
theorem draw_few {n : Int} {g : Gen} {v : Value} {w0 w : World} (h : RandAt w0 v g) (ho : OldAs w0 w) (hf : g.Fine) (hn : Few n) :
    Calls Tryz.prog 125 #[v, .int .u64 n] w fun e w' => ∃ v', e = .returned (.tuple #[.int .u64 (g.below n), v']) ∧ Ext w w' ∧ RandAt w0 v' (g.past n) :=
  (draw_any n g v w0 w h ho hn.1 (by have := hn.2; omega) (Gen.val_nn hf) _ (fun k hk => few_bound hf hn k hk)).mono (by
    rintro e w' ⟨k, v', h1, h2, rfl, x, hr⟩
    have e := taken_eq h1 h2
    exact ⟨v', by rw [Gen.below, e], x, by rw [Gen.past, e]; exact hr⟩)
/-- How the last places are changed with drawn ones: k times, from place k on. -/
noncomputable def shuf : Nat → List Int → Gen → List Int × Gen
  | 0, l, g => (l, g)
  | k + 1, l, g => shuf k ((l.set (k + 1) (l.getD (g.below (k + 2)).toNat 0)).set (g.below (k + 2)).toNat (l.getD (k + 1) 0)) (g.past (k + 2))
/-- Ones and noughts. -/
noncomputable def masks (q : Int) : Nat → List Int → Gen → List Int × Gen
  | 0, l, g => (l, g)
  | k + 1, l, g => masks q k (l ++ [if q ≤ g.below 100 then 1 else 0]) (g.past 100)
theorem masks_app (q : Int) (a b : Nat) (l : List Int) (g : Gen) : masks q (a + b) l g = masks q b (masks q a l g).1 (masks q a l g).2 := by
  induction a generalizing l g with
  | zero => simp [masks]
  | succ a ih => rw [show a + 1 + b = (a + b) + 1 by omega]; simp only [masks]; exact ih _ _
theorem masks_len (q : Int) (k : Nat) (l : List Int) (g : Gen) : (masks q k l g).1.length = l.length + k := by
  induction k generalizing l g with
  | zero => simp [masks]
  | succ k ih => simp only [masks]; rw [ih]; simp; omega
end Go.Proofs.YtkegefnpmijfiaaGreat
namespace Go.Proofs.YtkegefnpmijfiaaGreat
open Go.RowKit Go.Shelf
attribute [local go_sem] Oper.semAt_some
/-- The generator behind k turns of n places. -/
noncomputable def Gen.turn (n : Nat) (g : Gen) : Nat → Gen
  | 0 => g
  | k + 1 => (g.turn n k).past ((n : Int) - k)
theorem Gen.turn_fine {n : Nat} {g : Gen} (h : g.Fine) (k : Nat) : (g.turn n k).Fine := by
  induction k with
  | zero => exact h
  | succ k ih => exact Gen.past_fine ih _
/-- What came of turns: which two places change, each with the generator behind it. -/
def TurnsPre (w0 : World) (n : Nat) (g : Gen) (pre : List (Int × Int × Value)) : Prop :=
  pre.length + 1 ≤ n ∧ ∀ (i : Nat) (x : Int × Int × Value), pre[i]? = some x → x.1 = (n : Int) - 1 - i ∧ x.2.1 = (g.turn n i).below ((n : Int) - i) ∧ RandAt w0 x.2.2 (g.turn n (i + 1))
theorem TurnsPre.snoc {w0 : World} {n : Nat} {g : Gen} {pre : List (Int × Int × Value)} (h : TurnsPre w0 n g pre) {x : Int × Int × Value} (h0 : pre.length + 2 ≤ n) (h1 : x.1 = (n : Int) - 1 - pre.length)
    (h2 : x.2.1 = (g.turn n pre.length).below ((n : Int) - pre.length)) (h3 : RandAt w0 x.2.2 (g.turn n (pre.length + 1))) : TurnsPre w0 n g (pre ++ [x]) := by
  refine ⟨by simp; omega, fun i y hy => ?_⟩
  rcases Nat.lt_or_ge i pre.length with hi | hi
  · rw [List.getElem?_append_left hi] at hy; exact h.2 i y hy
  · rw [List.getElem?_append_right hi] at hy
    rcases Nat.eq_zero_or_pos (i - pre.length) with h0 | h0
    · rw [h0] at hy
      simp at hy
      subst hy
      obtain rfl : i = pre.length := by omega
      exact ⟨h1, h2, h3⟩
    · rw [List.getElem?_eq_none (by simp; omega)] at hy; cases hy
/-- The iterator's own blocks, and all that was there ahead, lie as they lay. -/
def KeptT (w0 : World) (B C : Nat) (W W' : World) : Prop := KeptD w0 B W W' ∧ W'.heap[C]? = W.heap[C]?
theorem turns_any (a : Option Addr) (m c : Nat) (p q r s n : Int) (w : World) :
    Calls Tryz.prog 120 #[.agg #[.slice a m c, .int .u64 p, .int .u64 q, .int .u64 r, .int .u64 s], .int .i64 n] w fun e w' => e = .returned (.func (.func 190) #[] #[.pointer (some ⟨w.heap.size + 1, 0, none⟩), .pointer (some ⟨w.heap.size, 0, none⟩)]) ∧ w' = (w.alloc (.cells #[.slice a m c, .int .u64 p, .int .u64 q, .int .u64 r, .int .u64 s] 62)).alloc (.cells #[.int .i64 n] 3) := by
  go_enter Tryz.func120, Tryz.ntmps120
  go_wp2
  go_ret
  exact ⟨rfl, rfl⟩
set_option maxHeartbeats 1000000 in
set_option maxRecDepth 100000 in
theorem turns_iter (k : Nat) (hk : 1 ≤ k) (B C N n : Nat) (g0 : Gen) (w0 w : World) (a : Option Addr) (m c : Nat) (p q r s : Int) (n1 : 1 ≤ n) (n2 : n ≤ 1000000) (hF : g0.Fine) (hFew : ∀ j : Int, 1 ≤ j → j ≤ n → Few j) (h0 : RandAt w0 (.agg #[.slice a m c, .int .u64 p, .int .u64 q, .int .u64 r, .int .u64 s]) g0) (ho : OldAs w0 w) (hB : w0.heap.size ≤ B) (hBC : B < C) (hCw : C < w.heap.size)
    (hS : StepAt w B (.slice a m c) p q r s) (hC : w.cell? ⟨C, 0, none⟩ = some (.int .i64 n)) :
    Iter Fence.wide k Tryz.prog 190 #[.pointer (some ⟨C, 0, none⟩), .pointer (some ⟨B, 0, none⟩)] (fun x : Int × Int × Value => #[.agg #[.int .i64 x.1, .int .i64 x.2.1], x.2.2]) (KeptT w0 B C) (TurnsPre w0 n g0) (fun xs => xs.length + 1 = n ∧ TurnsPre w0 n g0 xs) N B w := by
  intro l J Jx W hK hJ hJx hY hN hj0
  have hoW : OldAs w0 W := fun k hk => (hK.1.2.2 k hk).trans (ho k hk)
  have hCW : C < W.heap.size := Nat.lt_of_lt_of_le hCw hK.1.1
  have hCc : W.cell? ⟨C, 0, none⟩ = some (.int .i64 n) := by rw [World.cell?_of_block hK.2]; exact hC
  have hSW : StepAt W B (.slice a m c) p q r s := by
    obtain ⟨c0, c1, c2, c3, c4, f0, f1, f2, f3, f4⟩ := hS
    have e : ∀ o, W.cell? ⟨B, o, none⟩ = w.cell? ⟨B, o, none⟩ := fun o => World.cell?_of_block hK.1.2.1
    have e' : ∀ o, W.frozen? ⟨B, o, none⟩ = w.frozen? ⟨B, o, none⟩ := fun o => World.frozen?_of_block hK.1.2.1
    exact ⟨by rw [e]; exact c0, by rw [e]; exact c1, by rw [e]; exact c2, by rw [e]; exact c3, by rw [e]; exact c4, by rw [e']; exact f0, by rw [e']; exact f1, by rw [e']; exact f2, by rw [e']; exact f3, by rw [e']; exact f4⟩
  clear hK ho hCw hS hC hN
  have HFEW := Lib.hid hFew
  have HF := Lib.hid hF
  clear hFew hF
  refine callsIn_of_wp Tryz.func190 rfl trivial ?_ rfl
  simp only [Tryz.ntmps190, List.size_toArray, List.length_cons, List.length_nil, Nat.reduceAdd, Nat.reduceSub, Array.replicate_succ, Array.replicate_zero, List.push_toArray, List.append_toArray, List.nil_append, List.cons_append]
  gi_wp2
  gi_loopw [4] (fun i wr => ∃ (pre : List (Int × Int × Value)) (a : Option Addr) (m c : Nat) (p q r s : Int), i = .int .i64 ((n : Int) - 1 - pre.length) ∧ wr.cell? ⟨C, 0, none⟩ = some (.int .i64 n) ∧ StepAt wr B (.slice a m c) p q r s ∧ RandAt w0 (.agg #[.slice a m c, .int .u64 p, .int .u64 q, .int .u64 r, .int .u64 s]) (g0.turn n pre.length) ∧ J pre wr ∧ TurnsPre w0 n g0 pre ∧ OldAs w0 wr ∧ C < wr.heap.size) (fun i _ => (intOf i).toNat)
  case atStart => exact ⟨[], a, m, c, p, q, r, s, by simp, hCc, hSW, h0, hj0, ⟨by simp; omega, fun i x h => by simp at h⟩, hoW, hCW⟩
  case round =>
    clear hSW h0 hj0 hoW hCW hCc
    obtain ⟨pre, a, m, c, p, q, r, s, rfl, hc, ⟨c0, c1, c2, c3, c4, f0, f1, f2, f3, f4⟩, hr, hj, hd, ho, hBr⟩ := hrel
    obtain ⟨i, hi⟩ : ∃ i : Int, (n : Int) - 1 - pre.length = i := ⟨_, rfl⟩
    have hlen := hd.1
    have i0 : 0 ≤ i := by omega
    have i1 : i < 1000000 := by omega
    rw [hi]
    have HI := Lib.hid hi
    have HD := Lib.hid hd
    have HJ0 := Lib.hid hj
    have HO := Lib.hid ho
    have HJ := Lib.hid hJ
    have HY := Lib.hid hY
    have HBx := Lib.hid hJx
    have HR := Lib.hid hr
    clear hd hj ho hJ hY hJx hr hi
    by_cases hlt : 1 ≤ i
    · have FW : Hid (Few (i + 1)) := Lib.hid (HFEW.out _ (by omega) (by have := HI.out; omega))
      have ST := Lib.hid (draw_few (n := i + 1) HR.out HO.out (Gen.turn_fine HF.out _) FW.out)
      have BD := (g0.turn n pre.length).below_bd (n := i + 1) (by omega)
      obtain ⟨X, hX⟩ : ∃ X, (g0.turn n pre.length).below (i + 1) = X := ⟨_, rfl⟩
      rw [hX] at BD
      obtain ⟨X0, X1⟩ := BD
      have HX := Lib.hid hX
      clear hX
      have hBz : B < wr.heap.size := by omega
      gi_wp2_with fail
      refine ⟨trivial, ?_⟩
      refine (callsIn_wide.2 ST.out).mono ?_
      rintro e v1 ⟨v', he, x1, hr'⟩
      rw [HX.out] at he
      subst he
      obtain ⟨a', n', c', p', q', r', s', rfl, hn'⟩ := hr'.form
      obtain ⟨k1, t1⟩ := x1.rules
      have z1 := x1.size
      have hb1 : B < v1.heap.size := by omega
      have e0 := (k1 B 0 hBz).trans c0
      have e1 := (k1 B 1 hBz).trans c1
      have e2 := (k1 B 2 hBz).trans c2
      have e3 := (k1 B 3 hBz).trans c3
      have e4 := (k1 B 4 hBz).trans c4
      have d0 := (t1 B 0 hBz).trans f0
      have d1 := (t1 B 1 hBz).trans f1
      have d2 := (t1 B 2 hBz).trans f2
      have d3 := (t1 B 3 hBz).trans f3
      have d4 := (t1 B 4 hBz).trans f4
      have dc := (k1 C 0 hBr).trans hc
      have HR' := Lib.hid hr'
      clear k1 t1 hr' hn' c0 c1 c2 c3 c4 f0 f1 f2 f3 f4 hc ST
      have hpre : TurnsPre w0 n g0 (pre ++ [(i, X, .agg #[.slice a' n' c', .int .u64 p', .int .u64 q', .int .u64 r', .int .u64 s'])]) := HD.out.snoc (by have := HI.out; omega) HI.out.symm (by rw [← HX.out, show (n : Int) - pre.length = i + 1 by have := HI.out; omega]) (by
        have := HR'.out
        simp only [Gen.turn]
        rw [show (n : Int) - pre.length = i + 1 by have := HI.out; omega]
        exact this)
      have hj2 := HJ.out pre _ _ (HJ.out pre _ _ (HJ.out pre _ _ (HJ.out pre _ _ (HJ.out pre _ _ (HJ.out pre _ _ HJ0.out (x1.grow _)) (grow_at v1 B 0 (.slice a' n' c'))) (grow_at _ B 1 (.int .u64 p'))) (grow_at _ B 2 (.int .u64 q'))) (grow_at _ B 3 (.int .u64 r'))) (grow_at _ B 4 (.int .u64 s'))
      obtain ⟨fn, tmps, assign, body, hy, hR⟩ := HY.out _ _ _ hpre hj2
      have HP := Lib.hid hpre
      clear hj2 hpre
      gi_wp2
      refine hR.mono ?_
      rintro e W3 (⟨rfl, hJ3, hk3, hkC⟩ | ⟨rfl, hJx3⟩)
      · have c0 := World.cell?_of_block (a := ⟨B, 0, none⟩) hk3.2.1
        have c1 := World.cell?_of_block (a := ⟨B, 1, none⟩) hk3.2.1
        have c2 := World.cell?_of_block (a := ⟨B, 2, none⟩) hk3.2.1
        have c3 := World.cell?_of_block (a := ⟨B, 3, none⟩) hk3.2.1
        have c4 := World.cell?_of_block (a := ⟨B, 4, none⟩) hk3.2.1
        have f0 := World.frozen?_of_block (a := ⟨B, 0, none⟩) hk3.2.1
        have f1 := World.frozen?_of_block (a := ⟨B, 1, none⟩) hk3.2.1
        have f2 := World.frozen?_of_block (a := ⟨B, 2, none⟩) hk3.2.1
        have f3 := World.frozen?_of_block (a := ⟨B, 3, none⟩) hk3.2.1
        have f4 := World.frozen?_of_block (a := ⟨B, 4, none⟩) hk3.2.1
        have hc := World.cell?_of_block (a := ⟨C, 0, none⟩) hkC
        have hCB : C ≠ B := by omega
        simp [go_sem, *] at c0 c1 c2 c3 c4 f0 f1 f2 f3 f4 hc
        have hsz := hk3.1
        simp at hsz
        have hold : OldAs w0 W3 := fun k hk => by
          rw [hk3.2.2 k hk]
          have hne : k ≠ B := by omega
          rw [Below.heap_setCell _ _ _ k hne, Below.heap_setCell _ _ _ k hne, Below.heap_setCell _ _ _ k hne, Below.heap_setCell _ _ _ k hne, Below.heap_setCell _ _ _ k hne]
          have hkw : k < wr.heap.size := by omega
          exact (x1.block k hkw).trans (HO.out k hk)
        have HNEW : Hid (∃ (pre : List (Int × Int × Value)) (a : Option Addr) (m c : Nat) (p q r s : Int), (Value.int .i64 (i - 1)) = .int .i64 ((n : Int) - 1 - pre.length) ∧ W3.cell? ⟨C, 0, none⟩ = some (.int .i64 n) ∧ StepAt W3 B (.slice a m c) p q r s ∧ RandAt w0 (.agg #[.slice a m c, .int .u64 p, .int .u64 q, .int .u64 r, .int .u64 s]) (g0.turn n pre.length) ∧ J pre W3 ∧ TurnsPre w0 n g0 pre ∧ OldAs w0 W3 ∧ C < W3.heap.size) := Lib.hid
          ⟨_, a', n', c', p', q', r', s', by rw [← HI.out]; simp; omega, hc, ⟨c0, c1, c2, c3, c4, f0, f1, f2, f3, f4⟩, by
            rw [List.length_append, List.length_singleton]; simp only [Gen.turn]
            rw [show (n : Int) - pre.length = i + 1 by have := HI.out; omega]
            exact HR'.out, hJ3, HP.out, hold, by omega⟩
        clear hR hy hk3 hkC hJ3 hold e0 e1 e2 e3 e4 d0 d1 d2 d3 d4 c0 c1 c2 c3 c4 f0 f1 f2 f3 f4 hc dc
        gi_wp2
        go_roundw
        case rel => exact HNEW.out
        case measure => simp [intOf]; omega
      · gi_wp2
        refine bodyPost_ret (results_none rfl _ _ _) rfl ?_
        exact ⟨⟨_, rfl⟩, .inr ⟨_, HP.out, hJx3⟩⟩
    · gi_wp2
      refine bodyPost_end (results_none rfl _ _ _) rfl ?_
      exact ⟨⟨_, rfl⟩, .inl ⟨pre, ⟨by have := HI.out; omega, HD.out⟩, HJ0.out⟩⟩
end Go.Proofs.YtkegefnpmijfiaaGreat
