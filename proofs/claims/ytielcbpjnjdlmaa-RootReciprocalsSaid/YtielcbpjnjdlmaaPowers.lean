/- RootPowers: the walk. -/
import Derived.Test.YtielcbpjnjdlmaaRoots
import Derived.Test.YtielcbpjnjdlmaaOnes
import Derived.Test.YtielcbpjnjdlmaaWithin
namespace Go.Proofs.Ytielcbpjnjdlmaa
open Go.RowKit
theorem num3_any (a : Int) (w : World) : Calls Try.prog 74 #[.int .i64 a] w fun e w' => e = .returned (.int .i64 a) ∧ w = w' := by
  go_enter Try.func74, Try.ntmps74
  go_wp2
  go_ret
  exact ⟨rfl, rfl⟩
theorem wakes3 (w : World) : Calls Try.prog 75 #[] w fun e w' => e = .returned (.bool true) ∧ Ext w w' := by
  have W := Lib.hid (fun u => sqrt_ok 512 8 u (by decide) (by decide) (by omega))
  go_enter Try.func75, Try.ntmps75
  go_wp2_with fail; refine (W.out _).mono ?_; rintro e v1 ⟨r, rfl, x1, nr, -⟩; obtain ⟨c1, f1⟩ := x1.rules; have z1 := x1.size
  obtain rfl : r = 362 := near_root_only (n := 512 * p2 8) (d := 1) (by omega) nr (by unfold NearRoot; decide)
  go_wp2_with (go_at_call 74; refine (num3_any _ _).mono ?_; rintro e w' ⟨rfl, rfl⟩)
  go_ret
  exact ⟨rfl, (by repeat (first | with_reducible exact Ext.refl _ | with_reducible apply Ext.drew | with_reducible apply Ext.drewN | with_reducible apply Ext.alloc | ((with_reducible refine Ext.setCell ?_ ?_ _); rotate_left; focus (first | (simp; done) | (simp; omega) | omega)) | with_reducible refine Ext.tr ?_ x1 | with_reducible refine Ext.tr ?_ x2 | with_reducible refine Ext.tr ?_ x3 | with_reducible refine Ext.tr ?_ hx | with_reducible refine Ext.tr ?_ hext | with_reducible assumption))⟩
theorem pow_bounds {f K : Int} (f1 : 8 ≤ f) (f2 : f ≤ 32) (K0 : 0 ≤ K) (K1 : K < 4000) :
    IntKind.i64.wrap (K * K) = K * K ∧ ∃ G, IntKind.i64.wrap (K * K * 2 ^ (f - 8).toNat) = G ∧ ∃ R, IntKind.i64.wrap (K * 2 ^ (f - 4).toNat) = R ∧ 0 ≤ G ∧ 0 ≤ R ∧ G * p2 f = R * R := by
  have k0 := Int.mul_nonneg K0 K0
  have k1 : K * K ≤ 3999 * 3999 := sq_le K0 (by omega)
  have a1 : (2 : Int) ^ (f - 8).toNat ≤ 16777216 := Int.le_trans (pow_mono' (show (1 : Int) ≤ 2 by omega) (show (f - 8).toNat ≤ 24 by omega)) (by decide)
  have a0 := pow_pos' (f - 8).toNat
  have b1 : (2 : Int) ^ (f - 4).toNat ≤ 268435456 := Int.le_trans (pow_mono' (show (1 : Int) ≤ 2 by omega) (show (f - 4).toNat ≤ 28 by omega)) (by decide)
  have b0 := pow_pos' (f - 4).toNat
  have c := Int.mul_le_mul k1 a1 (by omega) (by omega)
  have c0 := Int.mul_nonneg k0 (Int.le_of_lt a0)
  have d := Int.mul_le_mul (show K ≤ 3999 by omega) b1 (by omega) (by omega)
  have d0 := Int.mul_nonneg K0 (Int.le_of_lt b0)
  refine ⟨wrap_i64 (by omega) (by omega), _, wrap_i64 (by omega) (by omega), _, wrap_i64 (by omega) (by omega), c0, d0, ?_⟩
  have e : (2 : Int) ^ (f - 8).toNat * p2 f = 2 ^ (f - 4).toNat * 2 ^ (f - 4).toNat := by
    unfold p2
    rw [← Int.pow_add, ← Int.pow_add]
    congr 1
    omega
  rw [Int.mul_assoc, e]
  grind
set_option maxHeartbeats 4000000 in
set_option maxRecDepth 100000 in
theorem powers_walk (b o len cap : Nat) (w : World) (_hl : len ≤ 9223372036854775807) (hT : OnesAt w b o len) :
    Calls Try.prog 10 #[.slice (some ⟨b, o, none⟩) len cap] w fun e w' => e = .returned (.bool true) ∧ Ext w w' := by
  have HT := Lib.hid hT
  clear hT
  go_enter Try.func10, Try.ntmps10
  go_wp2_with fail
  go_loopw [3] (fun i wr => ∃ k : Nat, k ≤ len ∧ i = .int .i64 k ∧ Ext w wr) (fun i _ => len - (intOf i).toNat)
  case atStart => exact ⟨0, Nat.zero_le _, rfl, Ext.refl _⟩
  case round =>
    obtain ⟨k, hk, rfl, hext⟩ := hrel
    by_cases hlt : k < len ∧ k < 25
    · obtain ⟨h1, h2⟩ := hlt
      obtain ⟨A, F, t0, hA, hF⟩ := HT.out k h1
      obtain ⟨d0, d1⟩ := t0.ext hext
      have T0 := Lib.hid t0
      clear t0
      obtain ⟨f, gf, FC⟩ := F_some F
      have F1 := Lib.hid FC
      clear FC
      obtain ⟨f1, f2⟩ := gdF_iff.1 gf
      have e0 : IntKind.u64.wrap A = A % 18446744073709551616 := rfl
      obtain ⟨K, e1, K0, K1⟩ : ∃ K, (A % 18446744073709551616).tmod 4000 = K ∧ 0 ≤ K ∧ K < 4000 := ⟨_, Int.tmod_eq_emod_of_nonneg (by omega), by omega, by omega⟩
      obtain ⟨q, e2, q0, q1⟩ : ∃ q, (A % 18446744073709551616).tmod 17592186044416 = q ∧ 0 ≤ q ∧ q < 17592186044416 := ⟨_, Int.tmod_eq_emod_of_nonneg (by omega), by omega, by omega⟩
      have w1 : IntKind.i64.wrap (K * K) = K * K := (pow_bounds f1 f2 K0 K1).1
      obtain ⟨G, w2, R, w3, G0, R0, HG⟩ := (pow_bounds f1 f2 K0 K1).2
      have w4 : IntKind.i64.wrap (4 * q) = 4 * q := wrap_i64 (by omega) (by omega)
      have E2 := Lib.hid (fun v => sqrt_ok q f v (gd_t (by omega) (by omega)) gf q0)
      have E3 := Lib.hid (fun v => sqrt_ok (4 * q) f v (gd_t (by omega) (by omega)) gf (by omega))
      cases gG : gd G
      · have ltG : decide (G < 140737488355328) = false := by simp [gd] at gG; simp; omega
        have E1 := Lib.hid (fun v => sqrt_bad G f v (by rw [gG]; rfl))
        clear HG w3 gG
        go_wp2_with fail; refine (F1.out _).mono ?_; rintro e w' ⟨rfl, rfl⟩
        go_wp2_with fail; refine (E1.out _).mono ?_; rintro e w' ⟨rfl, rfl⟩
        go_wp2_with (go_at_call 74; refine (num3_any _ _).mono ?_; rintro e w' ⟨rfl, rfl⟩)
        refine (E2.out _).mono ?_; rintro e v2 ⟨s, rfl, x2, ns, gs⟩; obtain ⟨c2, f2⟩ := x2.rules; have z2 := x2.size
        go_wp2_with fail; refine (E3.out _).mono ?_; rintro e v3 ⟨u, rfl, x3, nu, gu⟩; obtain ⟨c3, f3⟩ := x3.rules; have z3 := x3.size
        obtain ⟨s1, s2⟩ := gd_iff.1 gs
        obtain ⟨u1, u2⟩ := gd_iff.1 gu
        rw [Int.mul_assoc] at nu
        obtain ⟨c4, c5⟩ := near_root_four ns nu
        have w5 : IntKind.i64.wrap (2 * s) = 2 * s := wrap_i64 (by omega) (by omega)
        have w6 : IntKind.i64.wrap (u - 2 * s) = u - 2 * s := wrap_i64 (by omega) (by omega)
        have w7 : IntKind.i64.wrap (2 * s - u) = 2 * s - u := wrap_i64 (by omega) (by omega)
        clear ns nu gs gu
        go_wp2_with (go_at_call 74; refine (num3_any _ _).mono ?_; rintro e w' ⟨rfl, rfl⟩)
        go_roundw
        case rel => exact ⟨k + 1, by omega, by go_num, (by repeat (first | with_reducible exact Ext.refl _ | with_reducible apply Ext.drew | with_reducible apply Ext.drewN | with_reducible apply Ext.alloc | ((with_reducible refine Ext.setCell ?_ ?_ _); rotate_left; focus (first | (simp; done) | (simp; omega) | omega)) | with_reducible refine Ext.tr ?_ x1 | with_reducible refine Ext.tr ?_ x2 | with_reducible refine Ext.tr ?_ x3 | with_reducible refine Ext.tr ?_ hx | with_reducible refine Ext.tr ?_ hext | with_reducible assumption))⟩
        case measure => simp [intOf]; omega
      · have ltG : decide (G < 140737488355328) = true := by simp [gd] at gG; simp; omega
        have E1 := Lib.hid (fun v => sqrt_ok G f v gG gf G0)
        have HG' := Lib.hid HG
        clear HG gG
        go_wp2_with fail; refine (F1.out _).mono ?_; rintro e w' ⟨rfl, rfl⟩
        go_wp2_with fail; refine (E1.out _).mono ?_; rintro e v1 ⟨r, rfl, x1, nr, -⟩; obtain ⟨c1, f1⟩ := x1.rules; have z1 := x1.size
        rw [HG'.out] at nr
        obtain rfl := near_root_only (by omega) nr (near_root_sq R0)
        obtain ⟨d2, d3⟩ := T0.out.ext (hext.tr x1)
        clear nr HG' E1
        go_wp2_with (go_at_call 74; refine (num3_any _ _).mono ?_; rintro e w' ⟨rfl, rfl⟩)
        refine (E2.out _).mono ?_; rintro e v2 ⟨s, rfl, x2, ns, gs⟩; obtain ⟨c2, f2⟩ := x2.rules; have z2 := x2.size
        go_wp2_with fail; refine (E3.out _).mono ?_; rintro e v3 ⟨u, rfl, x3, nu, gu⟩; obtain ⟨c3, f3⟩ := x3.rules; have z3 := x3.size
        obtain ⟨s1, s2⟩ := gd_iff.1 gs
        obtain ⟨u1, u2⟩ := gd_iff.1 gu
        rw [Int.mul_assoc] at nu
        obtain ⟨c4, c5⟩ := near_root_four ns nu
        have w5 : IntKind.i64.wrap (2 * s) = 2 * s := wrap_i64 (by omega) (by omega)
        have w6 : IntKind.i64.wrap (u - 2 * s) = u - 2 * s := wrap_i64 (by omega) (by omega)
        have w7 : IntKind.i64.wrap (2 * s - u) = 2 * s - u := wrap_i64 (by omega) (by omega)
        clear ns nu gs gu
        go_wp2_with (go_at_call 74; refine (num3_any _ _).mono ?_; rintro e w' ⟨rfl, rfl⟩)
        go_roundw
        case rel => exact ⟨k + 1, by omega, by go_num, (by repeat (first | with_reducible exact Ext.refl _ | with_reducible apply Ext.drew | with_reducible apply Ext.drewN | with_reducible apply Ext.alloc | ((with_reducible refine Ext.setCell ?_ ?_ _); rotate_left; focus (first | (simp; done) | (simp; omega) | omega)) | with_reducible refine Ext.tr ?_ x1 | with_reducible refine Ext.tr ?_ x2 | with_reducible refine Ext.tr ?_ x3 | with_reducible refine Ext.tr ?_ hx | with_reducible refine Ext.tr ?_ hext | with_reducible assumption))⟩
        case measure => simp [intOf]; omega
    · have W := Lib.hid wakes3
      have hx : len ≤ k ∨ (k < len ∧ 25 ≤ k) := by omega
      clear hlt
      rcases hx with h | ⟨h1, h2⟩
      · go_wp2_with fail; refine (W.out _).mono ?_; rintro e v1 ⟨rfl, x1⟩; obtain ⟨c1, f1⟩ := x1.rules; have z1 := x1.size
        go_wp2
        go_ret
        exact ⟨rfl, (by repeat (first | with_reducible exact Ext.refl _ | with_reducible apply Ext.drew | with_reducible apply Ext.drewN | with_reducible apply Ext.alloc | ((with_reducible refine Ext.setCell ?_ ?_ _); rotate_left; focus (first | (simp; done) | (simp; omega) | omega)) | with_reducible refine Ext.tr ?_ x1 | with_reducible refine Ext.tr ?_ x2 | with_reducible refine Ext.tr ?_ x3 | with_reducible refine Ext.tr ?_ hx | with_reducible refine Ext.tr ?_ hext | with_reducible assumption))⟩
      · go_wp2_with fail; refine (W.out _).mono ?_; rintro e v1 ⟨rfl, x1⟩; obtain ⟨c1, f1⟩ := x1.rules; have z1 := x1.size
        go_wp2
        go_ret
        exact ⟨rfl, (by repeat (first | with_reducible exact Ext.refl _ | with_reducible apply Ext.drew | with_reducible apply Ext.drewN | with_reducible apply Ext.alloc | ((with_reducible refine Ext.setCell ?_ ?_ _); rotate_left; focus (first | (simp; done) | (simp; omega) | omega)) | with_reducible refine Ext.tr ?_ x1 | with_reducible refine Ext.tr ?_ x2 | with_reducible refine Ext.tr ?_ x3 | with_reducible refine Ext.tr ?_ hx | with_reducible refine Ext.tr ?_ hext | with_reducible assumption))⟩
set_option maxRecDepth 100000 in
theorem powers_zero (a : Option Addr) (cap : Nat) (w : World) :
    Calls Try.prog 10 #[.slice a 0 cap] w fun e w' => e = .returned (.bool true) ∧ Ext w w' := by
  have W := Lib.hid wakes3
  go_enter Try.func10, Try.ntmps10
  go_wp2_with fail
  refine wp_loop_rounds 1 ?_
  rw [rounds_succ]
  go_wp2_with fail; refine (W.out _).mono ?_; rintro e v1 ⟨rfl, x1⟩; obtain ⟨c1, f1⟩ := x1.rules; have z1 := x1.size
  go_wp2
  go_ret
  exact ⟨rfl, (by repeat (first | with_reducible exact Ext.refl _ | with_reducible apply Ext.drew | with_reducible apply Ext.drewN | with_reducible apply Ext.alloc | ((with_reducible refine Ext.setCell ?_ ?_ _); rotate_left; focus (first | (simp; done) | (simp; omega) | omega)) | with_reducible refine Ext.tr ?_ x1 | with_reducible refine Ext.tr ?_ x2 | with_reducible refine Ext.tr ?_ x3 | with_reducible refine Ext.tr ?_ hx | with_reducible refine Ext.tr ?_ hext | with_reducible assumption))⟩
set_option maxRecDepth 100000 in
theorem powers_any {H : Type} {enc : TypeId × Value → H} {w : World} {base : Nat} {v : Value} {d : DataW H} {p : List MemPlace}
    (hv : Value.okWide Try.prog w .any base 108 v) (h : DataW.Trod enc Try.prog w 0 (fun _ => true) true 108 v d p) :
    Calls Try.prog 10 #[v] w fun e w' => e = .returned (.bool true) ∧ Ext w w' := by
  rcases ones_open hv h with ⟨a, cap, rfl⟩ | ⟨b, o, len, cap, rfl, _, hl, hT⟩
  · exact powers_zero a cap w
  · exact powers_walk b o len cap w hl hT
end Go.Proofs.Ytielcbpjnjdlmaa
