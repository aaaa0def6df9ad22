/- ref90: NLen, Down2. -/
import Derived.Test.YtielcbpjnjdlmaaUp2
namespace Go.Proofs.Ytielcbpjnjdlmaa
open Go.RowKit
/-- x has l bits. -/
def BitLen (x : Int) (l : Nat) : Prop := x < 2 ^ l ∧ (l = 0 ∨ 2 ^ (l - 1) ≤ x)
theorem b64_pow (k : Nat) : B64 ^ k = 2 ^ (64 * k) := by
  rw [Int.pow_mul]; rfl
theorem bitlen_top {xs : List Int} {j : Nat} (hx : Digs B64 xs) (h0 : 0 < xs.length) (h1 : xs.getD (xs.length - 1) 0 / 2 ^ j = 0) (h2 : xs.getD (xs.length - 1) 0 / 2 ^ (j - 1) ≠ 0) (hj : 0 < j) :
    BitLen (val B64 xs) (64 * (xs.length - 1) + j) := by
  have e := val_take_succ B64 xs (xs.length - 1)
  rw [show xs.length - 1 + 1 = xs.length by omega, List.take_length] at e
  obtain ⟨a0, a1⟩ := val_bd (by decide) (xs.take (xs.length - 1)) (hx.take _)
  rw [List.length_take, Nat.min_eq_left (by omega)] at a1
  obtain ⟨d0, d1⟩ := hx.at (xs.length - 1) (by omega)
  generalize xs.getD (xs.length - 1) 0 = d at *
  have p := pow_pos' j
  have p' := pow_pos' (j - 1)
  have hd : d < 2 ^ j := by
    have := Int.emod_lt_of_pos d p
    have := Int.mul_ediv_add_emod d (2 ^ j)
    rw [h1] at this; omega
  have hd' : 2 ^ (j - 1) ≤ d := by
    rcases Int.lt_or_le d (2 ^ (j - 1)) with h | h
    · exact absurd (Int.ediv_eq_zero_of_lt d0 h) h2
    · exact h
  rw [e]
  have q : (0 : Int) < B64 ^ (xs.length - 1) := Int.pow_pos (by decide)
  constructor
  · rw [Int.pow_add, ← b64_pow]
    have := Int.mul_le_mul_of_nonneg_right (show d + 1 ≤ 2 ^ j by omega) (Int.le_of_lt q)
    rw [Int.add_mul, Int.one_mul] at this
    rw [Int.mul_comm (B64 ^ _)]; omega
  · right
    rw [show 64 * (xs.length - 1) + j - 1 = 64 * (xs.length - 1) + (j - 1) by omega, Int.pow_add, ← b64_pow]
    have := Int.mul_le_mul_of_nonneg_right hd' (Int.le_of_lt q)
    rw [Int.mul_comm (B64 ^ _)]; omega
theorem div_half (d : Int) (j : Nat) : d / 2 ^ j / 2 = d / 2 ^ (j + 1) := by
  rw [Int.pow_succ, Int.ediv_ediv_of_nonneg (Int.le_of_lt (pow_pos' j))]
set_option maxHeartbeats 1000000 in
theorem NLen_any {m : Value} {x : Int} {L : Nat} {w : World} (hX : NatAt w m x L) (hL : L ≤ 1000000) :
    Calls Try.prog 151 #[m] w fun e w' => ∃ l : Nat, e = .returned (.int .i64 l) ∧ w = w' ∧ BitLen x l := by
  obtain ⟨xs, ⟨ax, capx, rfl, hx2⟩, dX, nX, rfl, lX⟩ := hX.is
  have rx' : Row .u64 w (.slice ax xs.length capx) xs := ⟨ax, capx, rfl, hx2⟩
  have RX := Lib.hid rx'
  clear hX rx' hx2
  by_cases h0 : xs = []
  · subst h0
    go_enter Try.func151, Try.ntmps151
    go_wp2
    go_ret
    exact ⟨0, rfl, rfl, by simp [BitLen, val]⟩
  · have hpos : 0 < xs.length := List.length_pos_iff.2 h0
    obtain ⟨bx, ox, rfl, cx⟩ := RX.out.cellAt (xs.length - 1) (by omega)
    have nl : ((xs.length : Int) == 0) = false := by rw [beq_eq_false_iff_ne]; omega
    have en : ((xs.length - 1 : Nat) : Int) = (xs.length : Int) - 1 := by omega
    obtain ⟨d0, d1⟩ := dX.at (xs.length - 1) (by omega)
    unfold B64 at d1
    have ht : xs.getD (xs.length - 1) 0 ≠ 0 := by
      rcases nX with h | h
      · exact absurd h h0
      · exact h
    have HB := Lib.hid (fun j => bitlen_top (j := j) dX hpos)
    have HT := Lib.hid ht
    clear nX h0 ht
    generalize xs.getD (xs.length - 1) 0 = d at *
    go_enter Try.func151, Try.ntmps151
    go_wp2_with fail
    go_loop [3, 4] (fun nv xv => ∃ j : Nat, j ≤ 64 ∧ nv = .int .i64 (64 * ((xs.length : Int) - 1) + j) ∧ xv = .int .u64 (d / 2 ^ j) ∧ (j = 0 ∨ d / 2 ^ (j - 1) ≠ 0)) (fun _ xv => (intOf xv).toNat)
    case atStart => exact ⟨0, by omega, by simp, by simp, .inl rfl⟩
    case round =>
      obtain ⟨j, hj64, rfl, rfl, hj⟩ := hrel
      have HJ := Lib.hid hj
      have hy0 : 0 ≤ d / 2 ^ j := Int.ediv_nonneg d0 (Int.le_of_lt (pow_pos' j))
      have hy1 : d / 2 ^ j ≤ d := Int.ediv_le_self _ d0
      have hh := Lib.hid (div_half d j)
      by_cases hz : d / 2 ^ j = 0
      · have hj0 : 0 < j := by
          rcases Nat.eq_zero_or_pos j with h | h
          · subst h; simp at hz; exact absurd hz HT.out
          · exact h
        have hp : d / 2 ^ (j - 1) ≠ 0 := by
          rcases HJ.out with h | h
          · omega
          · exact h
        have R := Lib.hid (HB.out j hz hp hj0)
        have hb : (d / 2 ^ j != 0) = false := by simp [hz]
        clear hz hp hj hj0
        generalize d / 2 ^ j = y at *
        go_wp2
        go_ret
        refine ⟨64 * (xs.length - 1) + j, ?_, rfl, R.out⟩
        have e : ((64 * (xs.length - 1) + j : Nat) : Int) = 64 * ((xs.length : Int) - 1) + (j : Int) := by omega
        rw [e]; rfl
      · have hj64' : j < 64 := by
          rcases Nat.lt_or_ge j 64 with h | h
          · exact h
          · obtain rfl : j = 64 := by omega
            exact absurd (Int.ediv_eq_zero_of_lt d0 d1) hz
        have hb : (d / 2 ^ j != 0) = true := by simp [hz]
        have HZ := Lib.hid hz
        clear hz hj
        have hk : (j : Int) < 64 := by omega
        generalize hyy : d / 2 ^ j = y at *
        have HY := Lib.hid hyy
        clear hyy
        go_wp2_with fail
        refine ⟨⟨j + 1, by omega, by go_num, by rw [hh.out], .inr (by rw [Nat.add_sub_cancel, HY.out]; exact HZ.out)⟩, ?_⟩
        have := HZ.out
        simp [intOf]; omega
end Go.Proofs.Ytielcbpjnjdlmaa
