/- ratchetref26.number; def.is. -/
import Derived.Test.YtkdfenkpfffcaaaDefNum
namespace Go.Proofs.Ytkdfenkpfffcaaa
open Go.RowKit
/-- What the reference's number tells. -/
def numM (t : Bs) : Int := match numB t with
  | none => -1
  | some n => n
set_option maxHeartbeats 4000000 in
set_option maxRecDepth 10000 in
theorem numberR_any (t : Bs) (w : World) (hl : t.length ≤ 100000) :
    Calls Try.prog 89 #[.string (ba t)] w fun e w' => e = .returned (.int .i64 (numM t)) ∧ w = w' := by
  obtain ⟨S, hS, SZ, AT, -, LS⟩ := str_of t
  rw [hS]
  clear hS
  have hn : (t.length : Int) ≤ 100000 := by omega
  by_cases hA : t = []
  · subst hA
    have hR : numM [] = -1 := by simp [numM, numB]
    rw [hR]
    have hS0 : S = ByteArray.empty := by
      have := SZ
      exact ByteArray.ext (by cases S; simp [ByteArray.size] at this; simp [this])
    subst hS0
    clear AT LS SZ hR
    go_enter Try.func89, Try.ntmps89
    go_wp2
    go_ret
    exact ⟨rfl, rfl⟩
  have hpos : 0 < t.length := by
    rcases Nat.eq_zero_or_pos t.length with h | h
    · exact absurd (List.eq_nil_of_length_eq_zero h) hA
    · exact h
  have hpz : ((t.length : Int) == 0) = false := by simp; omega
  have hE : (S = ByteArray.empty) = False := eq_false (fun e => by rw [e] at SZ; simp at SZ; omega)
  have hEt : (S.toList == []) = false := by
    have := LS.out
    rw [this]
    cases t with
    | nil => simp at hpos
    | cons a b => rfl
  by_cases hB : 4 < t.length
  · have hBz : (4 : Int) < (t.length : Int) := by omega
    have hR : numM t = -1 := by simp [numM, numB_head (.inr (.inl hB))]
    rw [hR]
    clear AT LS hR hA
    go_enter Try.func89, Try.ntmps89
    go_wp2
    go_ret
    exact ⟨rfl, rfl⟩
  have hBz : ¬ (4 : Int) < (t.length : Int) := by omega
  have a0 := AT.out 0 hpos
  have hHd : t.head? = some t[0] := by rw [List.head?_eq_getElem?, List.getElem?_eq_getElem hpos]
  by_cases hC : t[0] = 48 ∧ 1 < t.length
  · have hCz : (1 : Int) < (t.length : Int) := by omega
    have hR : numM t = -1 := by simp only [numM, numB_head (.inr (.inr ⟨by rw [hHd, hC.1], hC.2⟩))]
    rw [hR]
    have a1 : ∀ h : 0 < S.size, S[0]'h = 48 := fun h => (a0 h).trans hC.1
    clear AT LS hR hA a0 hC
    go_enter Try.func89, Try.ntmps89
    go_wp2
    go_ret
    exact ⟨rfl, rfl⟩
  have hC2 : t.head? = some 48 → t.length ≤ 1 := fun h => by
    rw [hHd] at h
    have e : t[0] = 48 := Option.some.inj h
    rcases Nat.lt_or_ge 1 t.length with h1 | h1
    · exact absurd ⟨e, h1⟩ hC
    · exact h1
  have GOOD := Lib.hid (numB_good hA (by omega) hC2)
  have BAD := Lib.hid (fun k (h : k < t.length) => numB_bad (k := k) h)
  have tst : (((t[0]).toNat : Int) == 48) = false ∨ ((((t[0]).toNat : Int) == 48) = true ∧ ¬ (1 : Int) < (t.length : Int)) := by
    by_cases h : t[0] = 48
    · exact .inr ⟨by rw [h]; rfl, fun h' => hC ⟨h, by omega⟩⟩
    · exact .inl (byte_ne h).2
  obtain ⟨b0, hb0⟩ : ∃ b, t[0] = b := ⟨_, rfl⟩
  rw [hb0] at tst
  have a0' : ∀ h : 0 < S.size, S[0]'h = b0 := fun h => (a0 h).trans hb0
  have hl4 : (t.length : Int) ≤ 4 := by omega
  clear hC hC2 hHd hb0 a0 hB LS hA
  rcases tst with tst | ⟨tst, tst2⟩
  all_goals
    go_enter Try.func89, Try.ntmps89
    go_wp2_with fail
    go_loopw [3, 4] (fun n i wr => ∃ k : Nat, k ≤ t.length ∧ i = .int .i64 k ∧ n = .int .i64 (valB (t.take k)) ∧ (∀ (j : Nat) (h : j < t.length), j < k → digB t[j] = true) ∧ w = wr) (fun _ i _ => t.length - (intOf i).toNat)
    case atStart => exact ⟨0, Nat.zero_le _, rfl, by simp [valB], by omega, rfl⟩
    case round =>
      obtain ⟨k, hk, rfl, rfl, hd, rfl⟩ := hrel
      clear a0' tst
      rcases Nat.lt_or_ge k t.length with hlt | hge
      · have hz : (k : Int) < (t.length : Int) := by omega
        have at1 := AT.out k hlt
        have VS := valB_snoc (t.take k) t[k]
        rw [← take_getD_snoc hlt] at VS
        have VB : valB (t.take k) < 10000 := by
          have a := valB_lt (t.take k).length rfl (fun b hb => by
            obtain ⟨j, hj, rfl⟩ := List.getElem_of_mem hb
            rw [List.getElem_take]
            exact hd j (by simp at hj; omega) (by simp at hj; omega))
          have : (10 : Nat) ^ (t.take k).length ≤ 10 ^ 4 := Nat.pow_le_pow_right (by omega) (by simp; omega)
          omega
        have BD := Lib.hid (BAD.out k hlt)
        have ND : Hid (digB t[k] = true → ∀ (j : Nat) (h : j < t.length), j < k + 1 → digB t[j] = true) := Lib.hid (fun h j hj hjk => by
          rcases Nat.lt_succ_iff_lt_or_eq.1 hjk with h' | rfl
          · exact hd j hj h'
          · exact h)
        obtain ⟨b, hb⟩ : ∃ b, t[k] = b := ⟨_, rfl⟩
        rw [hb] at at1 VS BD ND
        generalize valB (t.take k) = v at VS VB ⊢
        obtain ⟨v', hv'⟩ : ∃ v', valB (t.take (k + 1)) = v' := ⟨_, rfl⟩
        rw [hv'] at VS
        have HVV := Lib.hid hv'
        clear hv'
        clear hb hd
        cases hdg : digB b
        · have hR : numM t = -1 := by simp only [numM, BD.out hdg]
          have HR := Lib.hid hR
          have hx : ((b.toNat : Int) < 48) ∨ (¬ ((b.toNat : Int) < 48) ∧ (57 : Int) < (b.toNat : Int)) := by
            have : ¬ (48 ≤ b.toNat ∧ b.toNat ≤ 57) := fun h => by rw [dig_iff.2 h] at hdg; cases hdg
            omega
          clear hR BD ND GOOD BAD AT hdg VS
          rcases hx with hx | ⟨hx, hx2⟩
          · go_wp2
            rw [HR.out]
            go_ret
            exact ⟨rfl, rfl⟩
          · go_wp2
            rw [HR.out]
            go_ret
            exact ⟨rfl, rfl⟩
        · obtain ⟨d1, d2⟩ := dig_iff.1 hdg
          have ND2 := Lib.hid (ND.out hdg)
          have hx : ¬ ((b.toNat : Int) < 48) := by omega
          have hx2 : ¬ ((57 : Int) < (b.toNat : Int)) := by omega
          have ws := u8_sub d1 d2
          have w1 : IntKind.i64.wrap (10 * (v : Int)) = 10 * (v : Int) := by rw [IntKind.wrap_i64]; omega
          have w2 : IntKind.i64.wrap ((b.toNat : Int) - 48) = (b.toNat : Int) - 48 := by rw [IntKind.wrap_i64]; omega
          have w3 : IntKind.i64.wrap (10 * (v : Int) + ((b.toNat : Int) - 48)) = (v' : Int) := by rw [IntKind.wrap_i64]; omega
          have HV := Lib.hid VS
          clear BD ND GOOD BAD AT hdg VS d1 d2
          go_wp2
          exact ⟨⟨k + 1, by omega, by go_num, by rw [HVV.out], ND2.out, by first | rfl | trivial⟩, by simp [intOf]; omega⟩
      · obtain rfl : k = t.length := by omega
        have hz : ¬ (t.length : Int) < (t.length : Int) := by omega
        obtain ⟨g1, g2⟩ := GOOD.out (fun j h => hd j h h)
        have HR := Lib.hid (show numM t = (valB t : Int) by simp only [numM, g1])
        rw [List.take_length]
        clear hd GOOD BAD AT g1
        generalize valB t = v at HR g2
        go_wp2
        rw [HR.out]
        go_ret
        exact ⟨rfl, rfl⟩

/-- A line of one word. -/
theorem is_any {v : Value} {L : List Bs} {x : Bs} {w : World} (h : RowV w v (strs L)) :
    Calls Try.prog 120 #[v, .string (ba x)] w fun e w' => e = .returned (.bool (decide (L = [x]))) ∧ w = w' := by
  obtain ⟨a, cap, rfl, h1, h2, h3⟩ := h
  rw [strs_len] at h1 h3 ⊢
  obtain ⟨X, hX, -, -, -, LX⟩ := str_of x
  rw [hX]
  clear hX
  by_cases hl : L.length = 1
  · obtain ⟨y, rfl⟩ := List.length_eq_one_iff.1 hl
    obtain ⟨b, o, rfl, hc⟩ := h3 (by simp [strs])
    have c0 := hc 0 (by simp)
    rw [Nat.add_zero] at c0
    simp only [strs, List.map_cons, List.map_nil, List.getElem?_cons_zero] at c0
    obtain ⟨Y, hY, -, -, -, LY⟩ := str_of y
    rw [hY] at c0
    have hz : decide ([y] = [x]) = (Y.toList == X.toList) := by
      rw [LY.out, LX.out]
      by_cases e : y = x <;> simp [e]
    rw [hz]
    clear h3 hc hY hz LX LY hl
    go_enter Try.func120, Try.ntmps120
    go_wp2
    go_ret
    exact ⟨rfl, rfl⟩
  · have hz : decide (L = [x]) = false := by simp; intro e; rw [e] at hl; exact hl rfl
    have hn : ((L.length : Int) == 1) = false := by simp; omega
    rw [hz]
    clear h3
    go_enter Try.func120, Try.ntmps120
    go_wp2
    go_ret
    exact ⟨rfl, rfl⟩
end Go.Proofs.Ytkdfenkpfffcaaa
