/- Draws as functions of the generator: the plain law of rng.Draw for few numbers. -/
import Derived.Test.YtmbgaonnknaclaaDraw
import Derived.Test.YtmbgaonnknaclaaRandSm
namespace Go.Proofs.Ytmbgaonnknaclaa
open Go.RowKit
noncomputable def Gen.taken (g : Gen) (n : Int) : Nat := leastOf (fun k => ¬ Refused n (g.val k))
/-- A draw below n; the generator behind it. -/
noncomputable def Gen.below (g : Gen) (n : Int) : Int := g.val (g.taken n) % n
noncomputable def Gen.past (g : Gen) (n : Int) : Gen := g.after (g.taken n + 1)
theorem taken_eq {g : Gen} {n : Int} {k : Nat} (h1 : ∀ j, j < k → Refused n (g.val j)) (h2 : ¬ Refused n (g.val k)) : g.taken n = k := by
  unfold Gen.taken
  have h := leastOf_spec (p := fun k => ¬ Refused n (g.val k)) ⟨k, h2⟩
  have a := h.2 k h2
  rcases Nat.lt_or_ge (leastOf fun k => ¬ Refused n (g.val k)) k with hlt | hge
  · exact absurd (h1 _ hlt) h.1
  · omega
/-- A generator that may be. -/
def Gen.Fine (g : Gen) : Prop := goodG g = true ∧ ∀ x ∈ g.script, 0 ≤ x
theorem bit_zero {b : BitVec 64} (h : b = b <<< 17) : b = 0 := by
  apply BitVec.eq_of_getLsbD_eq
  intro i hi
  induction i using Nat.strongRecOn with
  | ind i ih =>
    rw [h, BitVec.getLsbD_shiftLeft]
    by_cases h17 : i < 17
    · simp [h17]
    · have := ih (i - 17) (by omega) (by omega)
      rw [this]; simp
theorem rol45_zero {x : BitVec 64} (h : rol x 45 = 0) : x = 0 := by
  apply BitVec.eq_of_getLsbD_eq
  intro i hi
  unfold rol at h
  have hx : ∀ k, 64 ≤ k → x.getLsbD k = false := fun k hk => BitVec.getLsbD_of_ge _ _ hk
  rcases Nat.lt_or_ge i 19 with h1 | h1
  · have := congrArg (fun z => z.getLsbD (i + 45)) h
    simp only [BitVec.getLsbD_or, BitVec.getLsbD_shiftLeft, BitVec.getLsbD_ushiftRight, hx (64 - 45 + (i + 45)) (by omega), Bool.or_false] at this
    rw [show decide (i + 45 < 64) = true by simp; omega, show decide (i + 45 < 45) = false by simp, show i + 45 - 45 = i by omega] at this
    simpa using this
  · have := congrArg (fun z => z.getLsbD (i - 19)) h
    simp only [BitVec.getLsbD_or, BitVec.getLsbD_shiftLeft, BitVec.getLsbD_ushiftRight] at this
    rw [show decide (i - 19 < 45) = true by simp; omega, show 64 - 45 + (i - 19) = i by omega] at this
    simpa using this
theorem iv_zero {x : BitVec 64} : iv x = 0 ↔ x = 0 := by
  unfold iv
  constructor
  · intro h; apply BitVec.eq_of_toNat_eq; simp; omega
  · rintro rfl; rfl
theorem xor_zero {x y : BitVec 64} (h : x ^^^ y = 0) : x = y := by
  have := congrArg (fun z => z ^^^ y) h
  simpa [BitVec.xor_assoc, BitVec.xor_self] using this
theorem next_nz {s : St} (h : stz s = false) : stz s.next = false := by
  obtain ⟨a, b, c, d⟩ := s
  cases hz : stz (St.next ⟨a, b, c, d⟩)
  · rfl
  · exfalso
    simp only [stz, St.next, Bool.and_eq_true, decide_eq_true_eq, iv_zero] at hz
    obtain ⟨⟨⟨h1, h2⟩, h3⟩, h4⟩ := hz
    have e1 := rol45_zero h4
    rw [e1] at h1
    have e2 : d = b := xor_zero e1
    have e3 : a = 0 := by simpa using h1
    subst e3
    have e4 : b = c := by simpa using xor_zero h2
    subst e4
    have e5 : b = b <<< 17 := by simpa using xor_zero h3
    have e6 := bit_zero e5
    subst e6
    subst e2
    simp [stz, iv] at h
theorem Gen.step_fine {g : Gen} (h : g.Fine) : g.step.2.Fine := by
  obtain ⟨sc, st⟩ := g
  obtain ⟨h1, h2⟩ := h
  simp only [goodG, Bool.and_eq_true, decide_eq_true_eq] at h1
  cases sc with
  | nil =>
    refine ⟨?_, fun x hx => by simp [Gen.step] at hx⟩
    simp only [goodG, Gen.step]
    have := next_nz (s := st) (by simpa using h1.2)
    simp [this]
  | cons x r =>
    refine ⟨?_, fun y hy => h2 y (List.mem_cons_of_mem _ hy)⟩
    simp only [goodG, Gen.step, Bool.and_eq_true]
    have h3 : (x :: r).length ≤ 4096 := h1.1
    rw [List.length_cons] at h3
    exact ⟨decide_eq_true (by omega), h1.2⟩
theorem Gen.after_fine {g : Gen} (h : g.Fine) (k : Nat) : (g.after k).Fine := by
  induction k with
  | zero => exact h
  | succ k ih => exact Gen.step_fine ih
theorem Gen.val_nn {g : Gen} (h : g.Fine) (k : Nat) : 0 ≤ g.val k := by
  have hf := Gen.after_fine h k
  unfold Gen.val
  obtain ⟨-, h2⟩ := hf
  generalize g.after k = q at h2 ⊢
  obtain ⟨sc, st⟩ := q
  cases sc with
  | nil => exact iv_nn _
  | cons x r => exact h2 x (List.mem_cons_self ..)
theorem Gen.past_fine {g : Gen} (h : g.Fine) (n : Int) : (g.past n).Fine := Gen.after_fine h _
theorem Gen.Fine.len {g : Gen} (h : g.Fine) : g.script.length ≤ 4096 := by
  have := h.1
  simp only [goodG, Bool.and_eq_true, decide_eq_true_eq] at this
  exact this.1
theorem Gen.after_script (g : Gen) (k : Nat) : (g.after k).script = g.script.drop k := by
  induction k with
  | zero => simp [Gen.after]
  | succ k ih =>
    simp only [Gen.after]
    generalize g.after k = q at ih ⊢
    obtain ⟨sc, st⟩ := q
    simp only at ih
    rw [show k + 1 = 1 + k by omega, Nat.add_comm 1 k, ← List.drop_drop, ← ih]
    cases sc with
    | nil => simp [Gen.step]
    | cons x r => simp [Gen.step]
theorem Gen.after_state (g : Gen) (k : Nat) (h : g.script.length ≤ k) : g.val k = iv (g.after k).st.out ∧ (g.after (k + 1)).st = (g.after k).st.next := by
  have := g.after_script k
  rw [List.drop_eq_nil_of_le h] at this
  simp only [Gen.val, Gen.after]
  generalize g.after k = q at this ⊢
  obtain ⟨sc, st⟩ := q
  simp only at this
  subst this
  exact ⟨rfl, rfl⟩
/-- Few enough that a draw ends soon. -/
def Few (n : Int) : Prop := 0 < n ∧ n < 18446744073709551616 ∧ left64 n ≤ 25
theorem late_of {n : Int} {s : St} (h : Few n) (hr : Refused n (iv s.out)) : s.Late := by
  obtain ⟨-, h2⟩ := hr
  have := h.2.2
  unfold St.Late
  unfold iv at h2
  generalize s.out.toNat = z at *
  omega
theorem few_bound {g : Gen} {n : Int} (h : Few n) (k : Nat) (hk : ∀ j, j < k → Refused n (g.val j)) : k ≤ g.script.length + 7 := by
  rcases Nat.lt_or_ge (g.script.length + 7) k with hlt | hge
  · exfalso
    have L : ∀ j, j < 7 → (g.after (g.script.length + j)).st.Late := fun j hj => by
      have := hk (g.script.length + j) (by omega)
      rw [(g.after_state (g.script.length + j) (by omega)).1] at this
      exact late_of h this
    have e : ∀ j, (g.after (g.script.length + j + 1)).st = (g.after (g.script.length + j)).st.next := fun j => (g.after_state _ (by omega)).2
    have l0 := L 0 (by omega)
    have l1 := L 1 (by omega)
    have l2 := L 2 (by omega)
    have l3 := L 3 (by omega)
    have l4 := L 4 (by omega)
    have l5 := L 5 (by omega)
    have l6 := L 6 (by omega)
    have e0 := e 0
    have e1 := e 1
    have e2 := e 2
    have e3 := e 3
    have e4 := e 4
    have e5 := e 5
    simp only [Nat.add_assoc, Nat.reduceAdd] at *
    rw [e5, e4, e3, e2, e1, e0] at l6
    rw [e4, e3, e2, e1, e0] at l5
    rw [e3, e2, e1, e0] at l4
    rw [e2, e1, e0] at l3
    rw [e1, e0] at l2
    rw [e0] at l1
    exact not_all_late _ l0 l1 l2 l3 l4 l5 l6
  · exact hge
theorem Gen.below_bd (g : Gen) {n : Int} (h : 0 < n) : 0 ≤ g.below n ∧ g.below n < n := ⟨Int.emod_nonneg _ (by omega), Int.emod_lt_of_pos _ h⟩
theorem few_of {n : Int} (h0 : 0 < n) (h1 : n ≤ 30) : Few n := by
  refine ⟨h0, by omega, ?_⟩
  have : ∀ k : Fin 31, 0 < k.val → left64 (k.val : Int) ≤ 25 := by decide
  have := this ⟨n.toNat, by omega⟩ (by simp; omega)
  simpa [Int.toNat_of_nonneg (show 0 ≤ n by omega)] using this
theorem few_100 : Few 100 := by refine ⟨by decide, by decide, by decide⟩
theorem draw_few {n : Int} {g : Gen} {v : Value} {w0 w : World} (h : RandAt w0 v g) (ho : OldAs w0 w) (hf : g.Fine) (hn : Few n) :
    Calls Try.prog 56 #[v, .int .u64 n] w fun e w' => ∃ v', e = .returned (.tuple #[.int .u64 (g.below n), v']) ∧ Ext w w' ∧ RandAt w0 v' (g.past n) :=
  (draw_any n g v w0 w h ho hn.1 hn.2.1 (Gen.val_nn hf) _ (fun k hk => few_bound hn k hk)).mono (by
    rintro e w' ⟨k, v', h1, h2, rfl, x, hr⟩
    have e := taken_eq h1 h2
    exact ⟨v', by rw [Gen.below, e], x, by rw [Gen.past, e]; exact hr⟩)
/-- How the last places are changed with drawn ones: k times, from place k on. -/
noncomputable def shuf : Nat → List Int → Gen → List Int × Gen
  | 0, l, g => (l, g)
  | k + 1, l, g => shuf k ((l.set (k + 1) (l.getD (g.below (k + 2)).toNat 0)).set (g.below (k + 2)).toNat (l.getD (k + 1) 0)) (g.past (k + 2))
/-- Ones and noughts. -/
noncomputable def masks (q : Int) : Nat → List Int → Gen → List Int × Gen
  | 0, l, g => (l, g)
  | k + 1, l, g => masks q k (l ++ [if q ≤ g.below 100 then 1 else 0]) (g.past 100)
theorem masks_app (q : Int) (a b : Nat) (l : List Int) (g : Gen) : masks q (a + b) l g = masks q b (masks q a l g).1 (masks q a l g).2 := by
  induction a generalizing l g with
  | zero => simp [masks]
  | succ a ih => rw [show a + 1 + b = (a + b) + 1 by omega]; simp only [masks]; exact ih _ _
theorem masks_pre (q : Int) (b : Nat) (l : List Int) (g : Gen) : masks q b l g = (l ++ (masks q b [] g).1, (masks q b [] g).2) := by
  induction b generalizing l g with
  | zero => simp [masks]
  | succ b ih =>
    simp only [masks]
    rw [ih (l ++ _), ih ([] ++ _)]
    simp
theorem masks_two (q : Int) (a b : Nat) (g : Gen) : masks q (a + b) [] g = ((masks q a [] g).1 ++ (masks q b [] (masks q a [] g).2).1, (masks q b [] (masks q a [] g).2).2) := by
  rw [masks_app, masks_pre]
theorem masks_len (q : Int) (k : Nat) (l : List Int) (g : Gen) : (masks q k l g).1.length = l.length + k := by
  induction k generalizing l g with
  | zero => simp [masks]
  | succ k ih => simp only [masks]; rw [ih]; simp; omega
theorem shuf_len (k : Nat) (l : List Int) (g : Gen) : (shuf k l g).1.length = l.length := by
  induction k generalizing l g with
  | zero => rfl
  | succ k ih => simp only [shuf]; rw [ih]; simp
theorem masks_fine (q : Int) (k : Nat) (l : List Int) {g : Gen} (h : g.Fine) : (masks q k l g).2.Fine := by
  induction k generalizing l g with
  | zero => exact h
  | succ k ih => exact ih _ (Gen.past_fine h _)
theorem shuf_fine (k : Nat) (l : List Int) {g : Gen} (h : g.Fine) : (shuf k l g).2.Fine := by
  induction k generalizing l g with
  | zero => exact h
  | succ k ih => exact ih _ (Gen.past_fine h _)
end Go.Proofs.Ytmbgaonnknaclaa
