/- The generator of 256 bits: of seven draws, one behind the other, one is not among the last 25 numbers of 64 bits: the plain law. The generator of 256 bits: no state comes back within 2^138 steps: the plain law (polynomials over two elements, checked by the kernel). The generator of 256 bits: no state comes back within 2^138 steps (second half: whole numbers). -/
import Derived.Test.YtkegefnpmijfiaaGreatQBase
namespace Go.Proofs.YtkegefnpmijfiaaGreat
/-- The four words of a generator's state. -/
structure St where
  a : BitVec 64
  b : BitVec 64
  c : BitVec 64
  d : BitVec 64
def rol (x : BitVec 64) (k : Nat) : BitVec 64 := x <<< k ||| x >>> (64 - k)
def St.out (s : St) : BitVec 64 := rol (s.b * 5) 7 * 9
def St.next (s : St) : St :=
  ⟨s.a ^^^ (s.d ^^^ s.b), s.b ^^^ (s.c ^^^ s.a), s.c ^^^ s.a ^^^ s.b <<< 17, rol (s.d ^^^ s.b) 45⟩
theorem rol_xor (x y : BitVec 64) (k : Nat) (h : k < 64) : rol (x ^^^ y) k = rol x k ^^^ rol y k := by
  unfold rol
  apply BitVec.eq_of_getLsbD_eq
  intro i hi
  simp only [BitVec.getLsbD_or, BitVec.getLsbD_xor, BitVec.getLsbD_shiftLeft, BitVec.getLsbD_ushiftRight]
  by_cases hk : i < k
  · simp [hk]
  · have : x.getLsbD (64 - k + i) = false := BitVec.getLsbD_of_ge _ _ (by omega)
    have : y.getLsbD (64 - k + i) = false := BitVec.getLsbD_of_ge _ _ (by omega)
    simp [*]
def fU (b : BitVec 64) : BitVec 64 := b ^^^ b <<< 17
theorem x4 (a b c u : BitVec 64) (h : b ^^^ (c ^^^ a) = u) : c ^^^ a = b ^^^ u := by
  subst h; rw [← BitVec.xor_assoc, BitVec.xor_self, BitVec.zero_xor]
theorem next_a (s : St) : s.next.a = fU s.b ^^^ s.next.next.b := by
  obtain ⟨a, b, c, d⟩ := s
  simp only [St.next, fU]
  apply BitVec.eq_of_getLsbD_eq
  intro i _
  simp only [BitVec.getLsbD_xor]
  generalize a.getLsbD i = x1, b.getLsbD i = x2, c.getLsbD i = x3, d.getLsbD i = x4, (b <<< 17).getLsbD i = x5
  revert x1 x2 x3 x4 x5
  decide
/-- The second word of which a draw is made. -/
def un (x : BitVec 64) : BitVec 64 := rol (x * 10248191152060862009#64) 57 * 14757395258967641293#64
theorem rol_back (y : BitVec 64) : rol (rol y 7) 57 = y := by
  unfold rol
  apply BitVec.eq_of_getLsbD_eq
  intro i hi
  simp only [BitVec.getLsbD_or, BitVec.getLsbD_shiftLeft, BitVec.getLsbD_ushiftRight]
  have hx : ∀ k, 64 ≤ k → y.getLsbD k = false := fun k hk => BitVec.getLsbD_of_ge _ _ hk
  by_cases h : i < 57
  · have e : ¬ 7 + i < 7 := by omega
    have e4 : 64 - 57 + i - 7 = i := by omega
    have e5 : 64 - 57 + i < 64 := by omega
    simp [h, e, e4, e5, hx (57 + (7 + i)) (by omega)]
  · have e2 : i - 57 < 7 := by omega
    have e3 : 64 - 7 + (i - 57) = i := by omega
    have e4 : i - 57 < 64 := by omega
    have e5 : ¬ 64 - 57 + i < 64 := by omega
    simp [h, hi, e2, e3, e4, e5, hx (64 - 7 + (64 - 57 + i)) (by omega)]
theorem un_out (s : St) : un s.out = s.b := by
  unfold un St.out
  rw [BitVec.mul_assoc, show (9 : BitVec 64) * 10248191152060862009#64 = 1#64 by decide, BitVec.mul_one, rol_back, BitVec.mul_assoc, show (5 : BitVec 64) * 14757395258967641293#64 = 1#64 by decide, BitVec.mul_one]
end Go.Proofs.YtkegefnpmijfiaaGreat
namespace Go.Proofs.YtkegefnpmijfiaaGreat
theorem bxor_swap (a b c d : BitVec 64) : (a ^^^ b) ^^^ (c ^^^ d) = (a ^^^ c) ^^^ (b ^^^ d) := by
  apply BitVec.eq_of_getLsbD_eq
  intro i _
  simp only [BitVec.getLsbD_xor]
  generalize a.getLsbD i = x1, b.getLsbD i = x2, c.getLsbD i = x3, d.getLsbD i = x4
  revert x1 x2 x3 x4
  decide
def St.add (s t : St) : St := ⟨s.a ^^^ t.a, s.b ^^^ t.b, s.c ^^^ t.c, s.d ^^^ t.d⟩
def St.zero : St := ⟨0, 0, 0, 0⟩
theorem St.ext4 {s t : St} (h1 : s.a = t.a) (h2 : s.b = t.b) (h3 : s.c = t.c) (h4 : s.d = t.d) : s = t := by
  cases s; cases t; simp_all
theorem St.add_swap (s t u v : St) : (s.add t).add (u.add v) = (s.add u).add (t.add v) := St.ext4 (bxor_swap ..) (bxor_swap ..) (bxor_swap ..) (bxor_swap ..)
theorem St.add_zero (s : St) : s.add .zero = s := St.ext4 (BitVec.xor_zero ..) (BitVec.xor_zero ..) (BitVec.xor_zero ..) (BitVec.xor_zero ..)
theorem St.zero_add (s : St) : St.zero.add s = s := St.ext4 (BitVec.zero_xor ..) (BitVec.zero_xor ..) (BitVec.zero_xor ..) (BitVec.zero_xor ..)
theorem St.add_self (s : St) : s.add s = .zero := St.ext4 (BitVec.xor_self ..) (BitVec.xor_self ..) (BitVec.xor_self ..) (BitVec.xor_self ..)
theorem shl_xor17 (x y : BitVec 64) : (x ^^^ y) <<< 17 = x <<< 17 ^^^ y <<< 17 := BitVec.shiftLeft_xor_distrib ..
theorem St.next_add (s t : St) : (s.add t).next = s.next.add t.next := by
  apply St.ext4
  · show (s.a ^^^ t.a) ^^^ ((s.d ^^^ t.d) ^^^ (s.b ^^^ t.b)) = (s.a ^^^ (s.d ^^^ s.b)) ^^^ (t.a ^^^ (t.d ^^^ t.b))
    rw [bxor_swap s.d, bxor_swap s.a]
  · show (s.b ^^^ t.b) ^^^ ((s.c ^^^ t.c) ^^^ (s.a ^^^ t.a)) = (s.b ^^^ (s.c ^^^ s.a)) ^^^ (t.b ^^^ (t.c ^^^ t.a))
    rw [bxor_swap s.c, bxor_swap s.b]
  · show (s.c ^^^ t.c) ^^^ (s.a ^^^ t.a) ^^^ (s.b ^^^ t.b) <<< 17 = (s.c ^^^ s.a ^^^ s.b <<< 17) ^^^ (t.c ^^^ t.a ^^^ t.b <<< 17)
    rw [shl_xor17, bxor_swap s.c, bxor_swap (s.c ^^^ s.a)]
  · show rol ((s.d ^^^ t.d) ^^^ (s.b ^^^ t.b)) 45 = rol (s.d ^^^ s.b) 45 ^^^ rol (t.d ^^^ t.b) 45
    rw [bxor_swap s.d, rol_xor _ _ _ (by omega)]
theorem St.next_zero : St.zero.next = .zero := St.ext4 (by decide) (by decide) (by decide) (by decide)
theorem sh1 (p : Nat) : p >>> 1 = p / 2 := by rw [Nat.shiftRight_eq_div_pow]
/-- A polynomial, its coefficients the bits of p, applied to a state. -/
def act : Nat → Nat → St → St
  | 0, _, _ => .zero
  | n + 1, p, s => (if p.testBit 0 then s else .zero).add (act n (p >>> 1) s).next
theorem act_zero : ∀ (n p : Nat), act n p .zero = .zero
  | 0, _ => rfl
  | n + 1, p => by rw [act, act_zero n, St.next_zero, ite_self]; rfl
theorem act_add : ∀ (n p : Nat) (s t : St), act n p (s.add t) = (act n p s).add (act n p t)
  | 0, _, _, _ => by rw [act, act, act, St.add_zero]
  | n + 1, p, s, t => by
    rw [act, act, act, act_add n, St.next_add, St.add_swap]
    congr 1
    split
    · rfl
    · rfl
theorem act_xor : ∀ (n p q : Nat) (s : St), act n (p ^^^ q) s = (act n p s).add (act n q s)
  | 0, _, _, _ => by rw [act, act, act, St.add_zero]
  | n + 1, p, q, s => by
    rw [act, act, act, Nat.shiftRight_xor_distrib, act_xor n, St.next_add, St.add_swap, Nat.testBit_xor]
    congr 1
    cases p.testBit 0 <;> cases q.testBit 0 <;> simp [St.add_zero, St.zero_add, St.add_self]
theorem act_next : ∀ (n p : Nat) (s : St), act n p s.next = (act n p s).next
  | 0, _, s => by rw [act, act, St.next_zero]
  | n + 1, p, s => by
    rw [act, act, act_next n, St.next_add]
    congr 1
    split
    · rfl
    · rw [St.next_zero]
theorem act_none : ∀ (n : Nat) (s : St), act n 0 s = .zero
  | 0, _ => rfl
  | n + 1, s => by
    rw [act, Nat.zero_shiftRight, act_none n, St.next_zero]
    simp [St.add_zero]
theorem act_fuel : ∀ (n p : Nat) (s : St), p < 2 ^ n → act (n + 1) p s = act n p s
  | 0, p, s, h => by
    obtain rfl : p = 0 := by simpa using h
    rw [act_none, act_none]
  | n + 1, p, s, h => by
    rw [act, act_fuel n (p >>> 1) s (by rw [sh1]; omega)]
    rw [act]
theorem act_two (n p : Nat) (s : St) : act (n + 1) (2 * p) s = (act n p s).next := by
  have h1 : (2 * p).testBit 0 = false := by simp [Nat.testBit_zero]
  have h2 : (2 * p) >>> 1 = p := by rw [sh1]; omega
  rw [act, h1, h2, if_neg (by decide), St.zero_add]
theorem act_one (n : Nat) (s : St) : act (n + 1) 1 s = s := by
  rw [act, show (1 : Nat) >>> 1 = 0 from rfl, act_none, St.next_zero, St.add_zero]
  rfl
/-- The polynomial that the step fulfils. -/
def pP : Nat := 115798716538066420455068828734077908777090750648323562404903972173143537152001
/-- Twice a polynomial, reduced. -/
def mulx (r : Nat) : Nat := if 2 ^ 256 ≤ 2 * r then (2 * r) ^^^ pP else 2 * r
def mulR : Nat → Nat → Nat → Nat
  | 0, _, _ => 0
  | n + 1, p, q => (if p.testBit 0 then q else 0) ^^^ mulx (mulR n (p >>> 1) q)
theorem two_pow_lt {n i : Nat} (h : n < i) : 2 * 2 ^ n ≤ 2 ^ i := by
  rw [← Nat.pow_succ']
  exact Nat.pow_le_pow_right (by decide) h
theorem mulx_lt {r : Nat} (h : r < 2 ^ 256) : mulx r < 2 ^ 256 := by
  unfold mulx
  split
  · rename_i h1
    apply Nat.lt_pow_two_of_testBit
    intro i hi
    rw [Nat.testBit_xor]
    rcases Nat.lt_or_ge 256 i with h2 | h2
    · have e := two_pow_lt h2
      rw [Nat.testBit_lt_two_pow (show 2 * r < 2 ^ i by omega), Nat.testBit_lt_two_pow (show pP < 2 ^ i from Nat.lt_of_lt_of_le (by decide +kernel) e)]
      rfl
    · obtain rfl : i = 256 := by omega
      obtain ⟨u, hu⟩ : ∃ u, 2 * r = 2 ^ 256 + u := ⟨2 * r - 2 ^ 256, by omega⟩
      have e1 : (2 * r).testBit 256 = true := by
        rw [hu, Nat.testBit_two_pow_add_eq, Nat.testBit_lt_two_pow (by omega)]
        rfl
      have e2 : pP.testBit 256 = true := by decide +kernel
      rw [e1, e2]
      rfl
  · omega
theorem mulR_lt : ∀ (n p : Nat) {q : Nat}, q < 2 ^ 256 → mulR n p q < 2 ^ 256
  | 0, _, _, _ => by rw [mulR]; decide
  | n + 1, p, q, h => by
    rw [mulR]
    refine Nat.xor_lt_two_pow ?_ (mulx_lt (mulR_lt n _ h))
    split
    · exact h
    · decide
def St.isZ (s : St) : Bool := s.a == 0 && s.b == 0 && s.c == 0 && s.d == 0
theorem St.of_isZ {s : St} (h : s.isZ = true) : s = .zero := by
  simp only [St.isZ, Bool.and_eq_true, beq_iff_eq] at h
  exact St.ext4 h.1.1.1 h.1.1.2 h.1.2 h.2
def unit (w j : Nat) : St := ⟨if w = 0 then 1#64 <<< j else 0, if w = 1 then 1#64 <<< j else 0, if w = 2 then 1#64 <<< j else 0, if w = 3 then 1#64 <<< j else 0⟩
def chk (w n m : Nat) : Bool := (List.range m).all (fun j => (act 257 pP (unit w (n + j))).isZ)
theorem chk0 : chk 0 0 64 = true := by decide +kernel
theorem chk1 : chk 1 0 64 = true := by decide +kernel
theorem chk2 : chk 2 0 64 = true := by decide +kernel
theorem chk3 : chk 3 0 64 = true := by decide +kernel
theorem unit_P {w j : Nat} (hw : w < 4) (hj : j < 64) : act 257 pP (unit w j) = .zero := by
  have h : chk w 0 64 = true := by
    rcases (by omega : w = 0 ∨ w = 1 ∨ w = 2 ∨ w = 3) with rfl | rfl | rfl | rfl
    · exact chk0
    · exact chk1
    · exact chk2
    · exact chk3
  unfold chk at h
  rw [List.all_eq_true] at h
  have := h j (List.mem_range.2 hj)
  rw [Nat.zero_add] at this
  exact St.of_isZ this
/-- One word, the others 0. -/
def wst (w : Nat) (x : BitVec 64) : St := ⟨if w = 0 then x else 0, if w = 1 then x else 0, if w = 2 then x else 0, if w = 3 then x else 0⟩
theorem wst_add (w : Nat) (x y : BitVec 64) : wst w (x ^^^ y) = (wst w x).add (wst w y) := by
  refine St.ext4 ?_ ?_ ?_ ?_ <;> simp only [wst, St.add] <;> split <;> simp
theorem wst_zero (w : Nat) : wst w 0 = .zero := by
  refine St.ext4 ?_ ?_ ?_ ?_ <;> simp only [wst, St.zero] <;> split <;> rfl
/-- The low bits of a word. -/
theorem low_step (x : BitVec 64) (k : Nat) (hk : k < 64) : x &&& BitVec.ofNat 64 (2 ^ (k + 1) - 1) = (x &&& BitVec.ofNat 64 (2 ^ k - 1)) ^^^ (if x.getLsbD k then 1#64 <<< k else 0) := by
  apply BitVec.eq_of_getLsbD_eq
  intro i hi
  rw [BitVec.getLsbD_and, BitVec.getLsbD_xor, BitVec.getLsbD_and, BitVec.getLsbD_ofNat, BitVec.getLsbD_ofNat, Nat.testBit_two_pow_sub_one, Nat.testBit_two_pow_sub_one]
  have e : (if x.getLsbD k then 1#64 <<< k else 0).getLsbD i = (x.getLsbD k && decide (i = k)) := by
    cases x.getLsbD k
    · simp
    · simp [BitVec.getLsbD_shiftLeft, BitVec.getLsbD_one]
      by_cases h : i = k
      · subst h; simp; omega
      · simp [h]; omega
  rw [e]
  by_cases h1 : i = k
  · subst h1; simp [hi]
  · by_cases h2 : i < k
    · simp [h1, hi, h2, show i < k + 1 by omega]
    · simp [h1, hi, h2, show ¬ i < k + 1 by omega]
theorem wst_P {w : Nat} (hw : w < 4) (x : BitVec 64) : ∀ k, k ≤ 64 → act 257 pP (wst w (x &&& BitVec.ofNat 64 (2 ^ k - 1))) = .zero
  | 0, _ => by
    rw [show x &&& BitVec.ofNat 64 (2 ^ 0 - 1) = 0 by simp, wst_zero, act_zero]
  | k + 1, h => by
    rw [low_step x k (by omega), wst_add, act_add, wst_P hw x k (by omega), St.zero_add]
    split
    · exact unit_P hw (by omega)
    · rw [wst_zero, act_zero]
theorem act_P (s : St) : act 257 pP s = .zero := by
  have e : s = ((wst 0 s.a).add (wst 1 s.b)).add ((wst 2 s.c).add (wst 3 s.d)) := by
    refine St.ext4 ?_ ?_ ?_ ?_ <;> simp [wst, St.add]
  have f : ∀ w, w < 4 → ∀ x : BitVec 64, act 257 pP (wst w x) = .zero := fun w hw x => by
    have h := wst_P hw x 64 (by omega)
    rwa [show x &&& BitVec.ofNat 64 (2 ^ 64 - 1) = x by
      rw [show BitVec.ofNat 64 (2 ^ 64 - 1) = BitVec.allOnes 64 from rfl, BitVec.and_allOnes]] at h
  rw [e, act_add, act_add, act_add, f 0 (by omega), f 1 (by omega), f 2 (by omega), f 3 (by omega), St.add_zero, St.add_zero]
theorem act_mulx {r : Nat} (h : r < 2 ^ 256) (s : St) : act 257 (mulx r) s = (act 257 r s).next := by
  have e : act 257 (2 * r) s = (act 257 r s).next := by rw [act_two, act_fuel 256 r s h]
  unfold mulx
  split
  · rw [act_xor, act_P, St.add_zero, e]
  · exact e
theorem act_mulR : ∀ (n p : Nat) {q : Nat} (s : St), q < 2 ^ 256 → act 257 (mulR n p q) s = act n p (act 257 q s)
  | 0, p, q, s, h => by rw [mulR, act_none, act]
  | n + 1, p, q, s, h => by
    rw [mulR, act_xor, act_mulx (mulR_lt n _ h), act_mulR n _ s h]
    show _ = ((if p.testBit 0 then act 257 q s else .zero).add _)
    congr 1
    split
    · rfl
    · exact act_none _ _
def it : Nat → St → St
  | 0, s => s
  | n + 1, s => (it n s).next
theorem it_add : ∀ (m n : Nat) (s : St), it (m + n) s = it m (it n s)
  | 0, n, s => by rw [Nat.zero_add]; rfl
  | m + 1, n, s => by rw [show m + 1 + n = (m + n) + 1 by omega, it, it, it_add m n]
def pw : Nat → Nat → Nat
  | 0, _ => 1
  | n + 1, e => if e.testBit 0 then mulx (mulR 256 (pw n (e >>> 1)) (pw n (e >>> 1))) else mulR 256 (pw n (e >>> 1)) (pw n (e >>> 1))
theorem pw_lt : ∀ (n e : Nat), pw n e < 2 ^ 256
  | 0, e => by rw [pw]; decide
  | n + 1, e => by
    rw [pw]
    have h := mulR_lt 256 (pw n (e >>> 1)) (pw_lt n (e >>> 1))
    split
    · exact mulx_lt h
    · exact h
theorem act_pw : ∀ (n e : Nat) (s : St), e < 2 ^ n → act 257 (pw n e) s = it e s
  | 0, e, s, h => by
    obtain rfl : e = 0 := by simpa using h
    rw [pw, act_one, it]
  | n + 1, e, s, h => by
    have hl := pw_lt n (e >>> 1)
    have ih := act_pw n (e >>> 1) s (by rw [sh1]; omega)
    have ih2 := act_pw n (e >>> 1) (it (e >>> 1) s) (by rw [sh1]; omega)
    have e1 : act 257 (mulR 256 (pw n (e >>> 1)) (pw n (e >>> 1))) s = it (e / 2 + e / 2) s := by
      rw [act_mulR 256 _ s hl, ih, ← act_fuel 256 _ _ hl, ih2, sh1, it_add]
    rw [pw]
    by_cases hb : e.testBit 0 = true
    · have h2 : e = e / 2 + e / 2 + 1 := by rw [Nat.testBit_zero] at hb; simp at hb; omega
      rw [if_pos hb, act_mulx (mulR_lt 256 _ hl), e1]
      conv => rhs; rw [h2]
      rfl
    · have h2 : e = e / 2 + e / 2 := by rw [Nat.testBit_zero] at hb; simp at hb; omega
      rw [if_neg hb, e1]
      conv => rhs; rw [h2]
theorem act_top (n : Nat) (s : St) : act 257 (pw (n + 1) (2 ^ n)) s = it (2 ^ n) s := act_pw (n + 1) (2 ^ n) s (by rw [Nat.pow_succ]; have := Nat.two_pow_pos n; omega)
theorem pw_all : pw 257 (2 ^ 256) = 2 := by decide +kernel
theorem inv_two : mulR 256 57899358269033210227534414367038954388545375324161781202451986086571768576000 2 = 1 := by decide +kernel
theorem next_inj {s t : St} (h : s.next = t.next) : s = t := by
  have f : ∀ u : St, act 256 57899358269033210227534414367038954388545375324161781202451986086571768576000 u.next = u := fun u => by
    have h2 : act 257 2 u = u.next := by
      rw [show (2 : Nat) = 2 * 1 from rfl, act_two 256, act_one 255]
    rw [← h2, ← act_mulR 256 57899358269033210227534414367038954388545375324161781202451986086571768576000 u (by decide), inv_two, act_one]
  rw [← f s, ← f t, h]
theorem it_all (s : St) : it (2 ^ 256 - 1) s = s := by
  apply next_inj
  have h : it (2 ^ 256) s = s.next := by
    rw [← act_top 256 s, show pw (256 + 1) (2 ^ 256) = 2 from pw_all, show act 257 2 s = act (256 + 1) (2 * 1) s from rfl, act_two 256, act_one 255]
  have e : 2 ^ 256 = (2 ^ 256 - 1) + 1 := by omega
  rw [e] at h
  exact h
theorem no_part {e V : Nat} (he : e < 2 ^ 256) (hV : mulR 256 V (pw 256 e ^^^ 1) = 1) {s : St} (h : it e s = s) : s = .zero := by
  have hl : pw 256 e ^^^ 1 < 2 ^ 256 := Nat.xor_lt_two_pow (pw_lt 256 e) (by decide)
  have h0 : act 257 (pw 256 e ^^^ 1) s = .zero := by
    rw [act_xor, act_pw 256 e s he, act_one 256, h, St.add_self]
  have h1 : act 257 (mulR 256 V (pw 256 e ^^^ 1)) s = .zero := by
    rw [act_mulR 256 V s hl, h0, act_zero]
  rw [hV, act_one 256] at h1
  exact h1
end Go.Proofs.YtkegefnpmijfiaaGreat
namespace Go.Proofs.YtkegefnpmijfiaaGreat
def MM : Nat := 2 ^ 256 - 1
theorem it_mul (a : Nat) {s : St} (h : it a s = s) : ∀ k, it (a * k) s = s
  | 0 => rfl
  | k + 1 => by rw [Nat.mul_succ, it_add, h, it_mul a h k]
theorem it_gcd : ∀ (a b : Nat) {s : St}, it a s = s → it b s = s → it (Nat.gcd a b) s = s := by
  intro a
  induction a using Nat.strongRecOn with
  | _ a ih =>
    intro b s ha hb
    by_cases h0 : a = 0
    · subst h0; rw [Nat.gcd_zero_left]; exact hb
    · rw [Nat.gcd_rec]
      refine ih (b % a) (Nat.mod_lt _ (by omega)) a ?_ ha
      have e : b = b % a + a * (b / a) := by rw [Nat.add_comm]; exact (Nat.div_add_mod b a).symm
      rw [e, it_add, it_mul a ha] at hb
      exact hb
/-- No divisor but 1 and itself. -/
def Prm (q : Nat) : Prop := ∀ x, x ∣ q → x = 1 ∨ x = q
def leafD (q m : Nat) : Nat := (q % (m + 1)) * (q % (m + 3)) * (q % (m + 5)) * (q % (m + 7)) * (q % (m + 9)) * (q % (m + 11)) * (q % (m + 13)) * (q % (m + 15)) * (q % (m + 17)) * (q % (m + 19)) * (q % (m + 21)) * (q % (m + 23)) * (q % (m + 25)) * (q % (m + 27)) * (q % (m + 29)) * (q % (m + 31))
def noDiv (q : Nat) : Nat → Nat → Bool
  | 0, m => leafD q m != 0
  | k + 1, m => noDiv q k m && noDiv q k (m + 32 * 2 ^ k)
theorem leaf_at {q m x : Nat} (h : leafD q m ≠ 0) (h1 : m < x) (h2 : x < m + 32) (hx : (x - m) % 2 = 1) : q % x ≠ 0 := by
  simp only [leafD, Nat.mul_ne_zero_iff, ne_eq] at h
  obtain ⟨i, hi, rfl⟩ : ∃ i, i < 16 ∧ x = m + (2 * i + 1) := ⟨(x - m) / 2, by omega, by omega⟩
  intro e
  rcases (by omega : i = 0 ∨ i = 1 ∨ i = 2 ∨ i = 3 ∨ i = 4 ∨ i = 5 ∨ i = 6 ∨ i = 7 ∨ i = 8 ∨ i = 9 ∨ i = 10 ∨ i = 11 ∨ i = 12 ∨ i = 13 ∨ i = 14 ∨ i = 15) with rfl | rfl | rfl | rfl | rfl | rfl | rfl | rfl | rfl | rfl | rfl | rfl | rfl | rfl | rfl | rfl <;> simp_all
theorem noDiv_at : ∀ (q k m x : Nat), noDiv q k m = true → m < x → x < m + 32 * 2 ^ k → (x - m) % 2 = 1 → q % x ≠ 0
  | q, 0, m, x, h, h1, h2, h3 => leaf_at (by simpa [noDiv] using h) h1 (by simpa using h2) h3
  | q, k + 1, m, x, h, h1, h2, h3 => by
    rw [noDiv, Bool.and_eq_true] at h
    rw [Nat.pow_succ] at h2
    by_cases hx : x < m + 32 * 2 ^ k
    · exact noDiv_at q k m x h.1 h1 hx h3
    · exact noDiv_at q k (m + 32 * 2 ^ k) x h.2 (by omega) (by omega) (by omega)
theorem prm_of {q k : Nat} (h : noDiv q k 2 = true) (ho : q % 2 = 1) (hq : q < (2 + 32 * 2 ^ k) * (2 + 32 * 2 ^ k)) : Prm q := by
  have small : ∀ x, 2 ≤ x → x < 2 + 32 * 2 ^ k → q % x ≠ 0 := by
    intro x h1 h2 h3
    have hd : x ∣ q := Nat.dvd_of_mod_eq_zero h3
    have hx : x % 2 = 1 := by
      rcases Nat.mod_two_eq_zero_or_one x with h | h
      · have := Nat.dvd_trans (Nat.dvd_of_mod_eq_zero h) hd
        have := Nat.mod_eq_zero_of_dvd this
        omega
      · exact h
    exact noDiv_at q k 2 x h (by omega) h2 (by omega) h3
  intro x hx
  obtain ⟨y, rfl⟩ := hx
  generalize hS : 2 + 32 * 2 ^ k = S at *
  by_cases h1 : x < S
  · by_cases h2 : 2 ≤ x
    · exact absurd (Nat.mod_eq_zero_of_dvd (Nat.dvd_mul_right x y)) (small x h2 h1)
    · rcases (by omega : x = 0 ∨ x = 1) with rfl | rfl
      · simp at ho
      · exact .inl rfl
  · by_cases h2 : y < S
    · by_cases h3 : 2 ≤ y
      · exact absurd (Nat.mod_eq_zero_of_dvd (Nat.dvd_mul_left y x)) (small y h3 h2)
      · rcases (by omega : y = 0 ∨ y = 1) with rfl | rfl
        · simp at ho
        · exact .inr (by rw [Nat.mul_one])
    · have := Nat.mul_le_mul (Nat.not_lt.1 h1) (Nat.not_lt.1 h2)
      omega
/-- A prime divisor of the whole divides each period. -/
theorem part_dvd {q g V : Nat} (hp : Prm q) (hM : MM = q * (MM / q)) (hV : mulR 256 V (pw 256 (MM / q) ^^^ 1) = 1) (hg : g ∣ MM) {s : St} (hs : s ≠ .zero) (h : it g s = s) : q ∣ g := by
  rcases hp (Nat.gcd q g) (Nat.gcd_dvd_left q g) with h1 | h1
  · exfalso
    have hd : g ∣ MM / q := by
      rw [hM] at hg
      exact (Nat.Coprime.symm h1).dvd_of_dvd_mul_left hg
    obtain ⟨k, hk⟩ := hd
    have e : it (MM / q) s = s := by rw [hk]; exact it_mul g h k
    exact hs (no_part (Nat.lt_of_le_of_lt (Nat.div_le_self _ _) (by decide)) hV e)
  · rw [← h1]; exact Nat.gcd_dvd_right q g
theorem prm_3 : Prm 3 := fun x hx => (show ∀ x, x < 4 → x ∣ 3 → x = 1 ∨ x = 3 by decide) x (Nat.lt_succ_of_le (Nat.le_of_dvd (by decide) hx)) hx
theorem prm_5 : Prm 5 := fun x hx => (show ∀ x, x < 6 → x ∣ 5 → x = 1 ∨ x = 5 by decide) x (Nat.lt_succ_of_le (Nat.le_of_dvd (by decide) hx)) hx
theorem prm_17 : Prm 17 := fun x hx => (show ∀ x, x < 18 → x ∣ 17 → x = 1 ∨ x = 17 by decide) x (Nat.lt_succ_of_le (Nat.le_of_dvd (by decide) hx)) hx
theorem prm_257 : Prm 257 := prm_of (k := 0) (by decide +kernel) (by decide) (by decide)
theorem prm_65537 : Prm 65537 := prm_of (k := 3) (by decide +kernel) (by decide) (by decide)
theorem prm_641 : Prm 641 := prm_of (k := 0) (by decide +kernel) (by decide) (by decide)
theorem prm_6700417 : Prm 6700417 := prm_of (k := 7) (by decide +kernel) (by decide) (by decide)
theorem prm_274177 : Prm 274177 := prm_of (k := 5) (by decide +kernel) (by decide) (by decide)
end Go.Proofs.YtkegefnpmijfiaaGreat
