/- def.number, def.is, ratchetref26.number. -/
import Derived.Test.YtfimmcnfmipnlaaDoorStrs
namespace Go.Proofs.YtfimmcnfmipnlaaDoor
open Go.RowKit
theorem dig_iff {b : UInt8} : digB b = true ↔ 48 ≤ b.toNat ∧ b.toNat ≤ 57 := by simp [digB]
theorem take_getD_snoc {t : Bs} {k : Nat} (h : k < t.length) : t.take (k + 1) = t.take k ++ [t[k]] := take_snoc h
theorem u8_sub {b : Nat} (h1 : 48 ≤ b) (h2 : b ≤ 57) : IntKind.u8.wrap ((b : Int) - 48) = (b : Int) - 48 := by
  have : IntKind.u8.wrap ((b : Int) - 48) = ((b : Int) - 48) % 256 := rfl
  rw [this]; omega
/-- What number tells. -/
def numR (t : Bs) (lo hi : Int) : Int × Bool := match numB t with
  | none => (0, false)
  | some n => (n, decide (lo ≤ (n : Int)) && decide ((n : Int) ≤ hi))
theorem numB_bad {t : Bs} {k : Nat} (h : k < t.length) (hd : digB t[k] = false) : numB t = none := by
  unfold numB
  split
  · rfl
  · rw [if_neg]
    intro ha
    rw [List.all_eq_true.1 ha _ (List.getElem_mem h)] at hd
    cases hd
theorem numB_good {t : Bs} (h1 : t ≠ []) (h2 : t.length ≤ 4) (h3 : t.head? = some 48 → t.length ≤ 1) (hd : ∀ (k : Nat) (h : k < t.length), digB t[k] = true) : numB t = some (valB t) ∧ valB t < 10000 := by
  have ha : t.all digB = true := List.all_eq_true.2 (fun b hb => by obtain ⟨k, hk, rfl⟩ := List.getElem_of_mem hb; exact hd k hk)
  constructor
  · unfold numB
    rw [if_neg (by rintro (h | h | ⟨h, h'⟩); exact h1 h; omega; have := h3 h; omega), if_pos ha]
  · have a := valB_lt t.length rfl (fun b hb => List.all_eq_true.1 ha b hb)
    have : (10 : Nat) ^ t.length ≤ 10 ^ 4 := Nat.pow_le_pow_right (by omega) h2
    omega
theorem numB_head {t : Bs} (h : t = [] ∨ 4 < t.length ∨ (t.head? = some 48 ∧ 1 < t.length)) : numB t = none := by unfold numB; rw [if_pos h]
set_option maxHeartbeats 4000000 in
set_option maxRecDepth 10000 in
theorem number_any (t : Bs) (lo hi : Int) (w : World) (hl : t.length ≤ 100000) :
    Calls Tryd.prog 54 #[.string (ba t), .int .i64 lo, .int .i64 hi] w fun e w' => e = .returned (.tuple #[.int .i64 (numR t lo hi).1, .bool (numR t lo hi).2]) ∧ w = w' := by
  obtain ⟨S, hS, SZ, AT, -, LS⟩ := str_of t
  rw [hS]
  clear hS
  have hn : (t.length : Int) ≤ 100000 := by omega
  by_cases hA : t = []
  · subst hA
    have hR : numR [] lo hi = (0, false) := by simp [numR, numB]
    rw [hR]
    have hS0 : S = ByteArray.empty := by
      have := SZ
      exact ByteArray.ext (by cases S; simp [ByteArray.size] at this; simp [this])
    subst hS0
    clear AT LS SZ hR
    go_enter Tryd.func54, Tryd.ntmps54
    go_wp2
    simp [bodyPost, results, Tryd.results54, go_sem]
  have hpos : 0 < t.length := by
    rcases Nat.eq_zero_or_pos t.length with h | h
    · exact absurd (List.eq_nil_of_length_eq_zero h) hA
    · exact h
  have hpz : (0 : Int) < (t.length : Int) := by omega
  have hE : (S = ByteArray.empty) = False := eq_false (fun e => by rw [e] at SZ; simp at SZ; omega)
  have hEt : (S.toList == []) = false := by
    have := LS.out
    rw [this]
    cases t with
    | nil => simp at hpos
    | cons a b => rfl
  by_cases hB : 4 < t.length
  · have hBz : (4 : Int) < (t.length : Int) := by omega
    have hR : numR t lo hi = (0, false) := by simp [numR, numB_head (.inr (.inl hB))]
    rw [hR]
    clear AT LS hR hA
    go_enter Tryd.func54, Tryd.ntmps54
    go_wp2
    simp [bodyPost, results, Tryd.results54, go_sem]
  have hBz : ¬ (4 : Int) < (t.length : Int) := by omega
  have a0 := AT.out 0 hpos
  have hHd : t.head? = some t[0] := by rw [List.head?_eq_getElem?, List.getElem?_eq_getElem hpos]
  by_cases hC : t[0] = 48 ∧ 1 < t.length
  · have hCz : (1 : Int) < (t.length : Int) := by omega
    have hR : numR t lo hi = (0, false) := by simp only [numR, numB_head (.inr (.inr ⟨by rw [hHd, hC.1], hC.2⟩))]
    rw [hR]
    have a1 : ∀ h : 0 < S.size, S[0]'h = 48 := fun h => (a0 h).trans hC.1
    clear AT LS hR hA a0 hC
    go_enter Tryd.func54, Tryd.ntmps54
    go_wp2
    simp [bodyPost, results, Tryd.results54, go_sem]
  have hC2 : t.head? = some 48 → t.length ≤ 1 := fun h => by
    rw [hHd] at h
    have e : t[0] = 48 := Option.some.inj h
    rcases Nat.lt_or_ge 1 t.length with h1 | h1
    · exact absurd ⟨e, h1⟩ hC
    · exact h1
  have GOOD := Lib.hid (numB_good hA (by omega) hC2)
  have BAD := Lib.hid (fun k (h : k < t.length) => numB_bad (k := k) h)
  have tst : (((t[0]).toNat : Int) == 48) = false ∨ ((((t[0]).toNat : Int) == 48) = true ∧ ¬ (1 : Int) < (t.length : Int)) := by
    by_cases h : t[0] = 48
    · exact .inr ⟨by rw [h]; rfl, fun h' => hC ⟨h, by omega⟩⟩
    · exact .inl (byte_ne h).2
  obtain ⟨b0, hb0⟩ : ∃ b, t[0] = b := ⟨_, rfl⟩
  rw [hb0] at tst
  have a0' : ∀ h : 0 < S.size, S[0]'h = b0 := fun h => (a0 h).trans hb0
  have hl4 : (t.length : Int) ≤ 4 := by omega
  clear hC hC2 hHd hb0 a0 hB LS hA
  rcases tst with tst | ⟨tst, tst2⟩
  all_goals
    go_enter Tryd.func54, Tryd.ntmps54
    go_wp2_with fail
    go_loopw [8, 29] (fun n i wr => ∃ k : Nat, k ≤ t.length ∧ i = .int .i64 k ∧ n = .int .i64 (valB (t.take k)) ∧ (∀ (j : Nat) (h : j < t.length), j < k → digB t[j] = true) ∧ w = wr) (fun _ i _ => t.length - (intOf i).toNat)
    case atStart => exact ⟨0, Nat.zero_le _, rfl, by simp [valB], by omega, rfl⟩
    case round =>
      obtain ⟨k, hk, rfl, rfl, hd, rfl⟩ := hrel
      clear a0' tst
      rcases Nat.lt_or_ge k t.length with hlt | hge
      · have hz : (k : Int) < (t.length : Int) := by omega
        have at1 := AT.out k hlt
        have VS := valB_snoc (t.take k) t[k]
        rw [← take_getD_snoc hlt] at VS
        have VB : valB (t.take k) < 10000 := by
          have a := valB_lt (t.take k).length rfl (fun b hb => by
            obtain ⟨j, hj, rfl⟩ := List.getElem_of_mem hb
            rw [List.getElem_take]
            exact hd j (by simp at hj; omega) (by simp at hj; omega))
          have : (10 : Nat) ^ (t.take k).length ≤ 10 ^ 4 := Nat.pow_le_pow_right (by omega) (by simp; omega)
          omega
        have BD := Lib.hid (BAD.out k hlt)
        have ND : Hid (digB t[k] = true → ∀ (j : Nat) (h : j < t.length), j < k + 1 → digB t[j] = true) := Lib.hid (fun h j hj hjk => by
          rcases Nat.lt_succ_iff_lt_or_eq.1 hjk with h' | rfl
          · exact hd j hj h'
          · exact h)
        obtain ⟨b, hb⟩ : ∃ b, t[k] = b := ⟨_, rfl⟩
        rw [hb] at at1 VS BD ND
        generalize valB (t.take k) = v at VS VB ⊢
        obtain ⟨v', hv'⟩ : ∃ v', valB (t.take (k + 1)) = v' := ⟨_, rfl⟩
        rw [hv'] at VS
        have HVV := Lib.hid hv'
        clear hv'
        clear hb hd
        cases hdg : digB b
        · have hR : numR t lo hi = (0, false) := by simp only [numR, BD.out hdg]
          have HR := Lib.hid hR
          have hx : ((b.toNat : Int) < 48) ∨ (¬ ((b.toNat : Int) < 48) ∧ (57 : Int) < (b.toNat : Int)) := by
            have : ¬ (48 ≤ b.toNat ∧ b.toNat ≤ 57) := fun h => by rw [dig_iff.2 h] at hdg; cases hdg
            omega
          clear hR BD ND GOOD BAD AT hdg VS
          rcases hx with hx | ⟨hx, hx2⟩
          · go_wp2
            rw [HR.out]
            simp [bodyPost, results, Tryd.results54, go_sem]
          · go_wp2
            rw [HR.out]
            simp [bodyPost, results, Tryd.results54, go_sem]
        · obtain ⟨d1, d2⟩ := dig_iff.1 hdg
          have ND2 := Lib.hid (ND.out hdg)
          have hx : ¬ ((b.toNat : Int) < 48) := by omega
          have hx2 : ¬ ((57 : Int) < (b.toNat : Int)) := by omega
          have ws := u8_sub d1 d2
          have w1 : IntKind.i64.wrap (10 * (v : Int)) = 10 * (v : Int) := by rw [IntKind.wrap_i64]; omega
          have w2 : IntKind.i64.wrap ((b.toNat : Int) - 48) = (b.toNat : Int) - 48 := by rw [IntKind.wrap_i64]; omega
          have w3 : IntKind.i64.wrap (10 * (v : Int) + ((b.toNat : Int) - 48)) = (v' : Int) := by rw [IntKind.wrap_i64]; omega
          have HV := Lib.hid VS
          clear BD ND GOOD BAD AT hdg VS d1 d2
          go_wp2
          exact ⟨⟨k + 1, by omega, by go_num, by rw [HVV.out], ND2.out, by first | rfl | trivial⟩, by simp [intOf]; omega⟩
      · obtain rfl : k = t.length := by omega
        have hz : ¬ (t.length : Int) < (t.length : Int) := by omega
        obtain ⟨g1, g2⟩ := GOOD.out (fun j h => hd j h h)
        have HR := Lib.hid (show numR t lo hi = ((valB t : Int), decide (lo ≤ (valB t : Int)) && decide ((valB t : Int) ≤ hi)) by simp only [numR, g1])
        rw [List.take_length]
        clear hd GOOD BAD AT g1
        generalize valB t = v at HR g2
        by_cases c1 : lo ≤ (v : Int)
        · by_cases c2 : (v : Int) ≤ hi
          · have HR2 := Lib.hid (show numR t lo hi = ((v : Int), true) by rw [HR.out]; simp [c1, c2])
            clear HR
            go_wp2
            rw [HR2.out]
            simp [bodyPost, results, Tryd.results54, go_sem]
          · have HR2 := Lib.hid (show numR t lo hi = ((v : Int), false) by rw [HR.out]; simp [c2])
            clear HR
            go_wp2
            rw [HR2.out]
            simp [bodyPost, results, Tryd.results54, go_sem]
        · have HR2 := Lib.hid (show numR t lo hi = ((v : Int), false) by rw [HR.out]; simp [c1])
          clear HR
          go_wp2
          rw [HR2.out]
          simp [bodyPost, results, Tryd.results54, go_sem]
end Go.Proofs.YtfimmcnfmipnlaaDoor
