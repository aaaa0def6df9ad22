/- A root bit by bit: the plain law. -/
import Derived.Test.YtielcbpjnjdlmaaNearRoot
import Derived.Test.YtielcbpjnjdlmaaNat2
namespace Go.Proofs.Ytielcbpjnjdlmaa
/-- r is the root of n, rounded down, as far as the bits from k on. -/
def BitRoot (n r : Int) (k : Nat) : Prop := 0 ≤ r ∧ r * r ≤ n ∧ n < (r + 2 ^ k) * (r + 2 ^ k)
theorem two_succ (k : Nat) : (2 : Int) ^ (k + 1) = 2 ^ k + 2 ^ k := by rw [Int.pow_succ]; omega
theorem bit_take {n r : Int} {k : Nat} (h : BitRoot n r (k + 1)) (hs : (r + 2 ^ k) * (r + 2 ^ k) ≤ n) : BitRoot n (r + 2 ^ k) k := by
  obtain ⟨h0, _, h2⟩ := h
  have p := pow_pos' k
  rw [two_succ, ← Int.add_assoc] at h2
  exact ⟨by omega, hs, h2⟩
theorem bit_leave {n r : Int} {k : Nat} (h : BitRoot n r (k + 1)) (hs : n < (r + 2 ^ k) * (r + 2 ^ k)) : BitRoot n r k := ⟨h.1, h.2.1, hs⟩
theorem bit_end {n r : Int} (h : BitRoot n r 0) : IsRoot n r := by
  obtain ⟨h0, h1, h2⟩ := h
  exact ⟨h0, h1, by simpa using h2⟩
theorem bit_start {n : Int} {l : Nat} (n0 : 0 ≤ n) (h : n < 2 ^ l) : BitRoot n 0 (l / 2 + 2) := by
  refine ⟨Int.le_refl _, by simpa using n0, ?_⟩
  rw [Int.zero_add, ← Int.pow_add]
  have := pow_mono' (show (1 : Int) ≤ 2 by omega) (show l ≤ l / 2 + 2 + (l / 2 + 2) by omega)
  omega
/-- Half a word above the root, against the number: as the reference asks it. -/
theorem half_cmp (k n d : Int) : (2 * k + 1) * (2 * k + 1) * d - n * 4 = (2 * k + 1) * (2 * k + 1) * d - 4 * n := by omega
end Go.Proofs.Ytielcbpjnjdlmaa
