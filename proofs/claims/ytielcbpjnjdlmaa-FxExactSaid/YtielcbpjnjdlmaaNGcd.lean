/- ref90: NGcd. -/
import Derived.Test.YtielcbpjnjdlmaaNDivide
import Derived.Deep.LoopGhost
namespace Go.Proofs.Ytielcbpjnjdlmaa
open Go.RowKit
theorem NatAt.form {w : World} {v : Value} {x : Int} {L : Nat} (h : NatAt w v x L) : ∃ a n cap, v = .slice a n cap ∧ n ≤ L ∧ (n = 0 → x = 0) ∧ (0 < n → 0 < x) := by
  obtain ⟨ds, ⟨a, cap, rfl, h1, h2, h3⟩, hd, hn, rfl, hl⟩ := h.is
  refine ⟨a, _, cap, rfl, hl, fun h => ?_, fun h => ?_⟩
  · rw [List.eq_nil_of_length_eq_zero h]; rfl
  · have h6 := val_top (by decide) hd hn (List.length_pos_iff.1 h)
    have h7 : (0 : Int) < B64 ^ (ds.length - 1) := Int.pow_pos (by decide)
    omega
theorem gcd_step {X Y : Int} (hx : 0 ≤ X) (hy : 0 ≤ Y) : Int.gcd (X % Y) Y = Int.gcd X Y := by
  obtain ⟨a, rfl⟩ := Int.eq_ofNat_of_zero_le hx
  obtain ⟨b, rfl⟩ := Int.eq_ofNat_of_zero_le hy
  have e : ((a : Int) % (b : Int)) = ((a % b : Nat) : Int) := by omega
  rw [e]
  simp only [Int.gcd, Int.natAbs_natCast]
  rw [← Nat.gcd_rec, Nat.gcd_comm]
set_option maxHeartbeats 1000000 in
theorem NGcd_any {m1 m2 : Value} {x y : Int} {L : Nat} {w : World} (hX : NatAt w m1 x L) (hY : NatAt w m2 y L) (hL : L ≤ 100000) :
    Calls Try.prog 106 #[m1, m2] w fun e w' => ∃ v, e = .returned v ∧ Ext w w' ∧ NatAt w' v (Int.gcd x y) L := by
  go_enter Try.func106, Try.ntmps106
  go_wp2_with fail
  go_loopg [0, 1] y.toNat (fun g av bv wr => ∃ X Y : Int, g = Y.toNat ∧ NatAt wr av X L ∧ NatAt wr bv Y L ∧ Int.gcd X Y = Int.gcd x y ∧ Ext w wr)
  case atStart => exact ⟨x, y, rfl, hX, hY, rfl, Ext.refl _⟩
  case round =>
    obtain ⟨X, Y, hg, hA, hB, hgcd, hext⟩ := hrel
    have HA := Lib.hid hA
    have HB := Lib.hid hB
    have HG := Lib.hid hgcd
    have HM := Lib.hid hg
    obtain ⟨a, n, cap, rfl, hn, z1, z2⟩ := hB.form
    have x0 := hA.nn
    clear hA hB hgcd hg hX hY
    rcases Nat.eq_zero_or_pos n with h | h
    · have hy := z1 h
      subst h
      have H : Hid (NatAt wr _ (Int.gcd x y) L) := Lib.hid (by rw [← HG.out, hy, Int.gcd_zero_right, Int.natAbs_of_nonneg x0]; exact HA.out)
      clear hy z1 z2
      go_wp2
      go_ret
      exact ⟨_, rfl, hext, H.out⟩
    · have hy := z2 h
      have hn0 : (0 : Int) < (n : Int) := by omega
      clear z1 z2
      go_wp2_with fail
      refine (NDivide_any HA.out HB.out hy hL).mono ?_
      rintro e v1 ⟨q, r, rfl, x1, hq, hr⟩
      have HR := Lib.hid hr
      have m0 := Int.emod_nonneg X (show Y ≠ 0 by omega)
      have m1' := Int.emod_lt_of_pos X hy
      clear hq hr
      go_wp2_with fail
      go_roundg (X % Y).toNat
      case rel => exact ⟨Y, X % Y, rfl, HB.out.ext x1, HR.out, by rw [← HG.out, Int.gcd_comm Y]; exact gcd_step x0 (Int.le_of_lt hy), hext.tr x1⟩
      case measure => rw [HM.out]; omega
end Go.Proofs.Ytielcbpjnjdlmaa
