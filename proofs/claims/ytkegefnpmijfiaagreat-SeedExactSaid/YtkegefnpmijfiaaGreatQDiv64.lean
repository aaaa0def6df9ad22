/- math/bits.Div64: quotient and rest of a number of 128 bits by a word. -/
import Derived.Test.YtkegefnpmijfiaaGreatQShift
namespace Go.Proofs.YtkegefnpmijfiaaGreat
open Go.RowKit
theorem lz64_any (x : Int) (w : World) (h0 : 0 ≤ x) (h1 : x < 18446744073709551616) :
    Calls Tryz.prog 275 #[.int .u64 x] w fun e w' => e = .returned (.int .i64 (64 - blen x)) ∧ w = w' := by
  have l0 := blen_nn x
  have l1 := blen_le x 64 (by omega) (by omega)
  go_enter Tryz.func275, Tryz.ntmps275
  go_wp2_with fail; refine (len64_any _ _ h0 h1).mono ?_; rintro e w' ⟨rfl, rfl⟩
  go_wp2
  go_ret
  exact ⟨rfl, rfl⟩
/-- One digit of the quotient: u 2^32 + n by Y = v1 2^32 + v0. -/
structure Digit (u n Y v1 v0 Q R : Int) : Prop where
  hY : Y = v1 * 4294967296 + v0
  v1l : 2147483648 ≤ v1
  v1h : v1 < 4294967296
  v0l : 0 ≤ v0
  v0h : v0 < 4294967296
  ul : 0 ≤ u
  uh : u < Y
  nl : 0 ≤ n
  nh : n < 4294967296
  hQ : u * 4294967296 + n = Q * Y + R
  Rl : 0 ≤ R
  Rh : R < Y
section
variable {u n Y v1 v0 Q R : Int}
theorem Digit.yp (d : Digit u n Y v1 v0 Q R) : 0 < Y := by have := d.hY; have := d.v1l; have := d.v0l; omega
theorem Digit.Q0 (d : Digit u n Y v1 v0 Q R) : 0 ≤ Q := by
  rcases Int.lt_or_le Q 0 with h | h
  · have h2 := Int.mul_le_mul_of_nonneg_right (show Q ≤ -1 by omega) (Int.le_of_lt d.yp)
    have := d.hQ; have := d.Rh; have := d.ul; have := d.nl
    omega
  · exact h
theorem Digit.Qh (d : Digit u n Y v1 v0 Q R) : Q < 4294967296 := by
  rcases Int.lt_or_le Q 4294967296 with h | h
  · exact h
  · have h2 := Int.mul_le_mul_of_nonneg_right h (Int.le_of_lt d.yp)
    have := d.hQ; have := d.Rl; have := d.uh; have := d.nh
    omega
theorem Digit.le_iff (d : Digit u n Y v1 v0 Q R) (q r : Int) (hr : u = q * v1 + r) : q * v0 ≤ 4294967296 * r + n ↔ q ≤ Q := by
  have e : q * Y = q * v1 * 4294967296 + q * v0 := by rw [d.hY, Int.mul_add, Int.mul_assoc]
  have h := d.hQ
  have hR := d.Rh
  have hRl := d.Rl
  constructor
  · intro hc
    rcases Int.lt_or_le Q q with hlt | hle
    · have h2 := Int.mul_le_mul_of_nonneg_right (show Q + 1 ≤ q by omega) (Int.le_of_lt d.yp)
      rw [Int.add_mul, Int.one_mul] at h2
      generalize q * v1 = A at *
      generalize q * v0 = B at *
      generalize q * Y = C at *
      generalize Q * Y = D at *
      omega
    · exact hle
  · intro hc
    have h2 := Int.mul_le_mul_of_nonneg_right hc (Int.le_of_lt d.yp)
    generalize q * v1 = A at *
    generalize q * v0 = B at *
    generalize q * Y = C at *
    generalize Q * Y = D at *
    omega
/-- The first guess. -/
theorem Digit.start (d : Digit u n Y v1 v0 Q R) : Q ≤ u / v1 ∧ u / v1 ≤ 4294967297 ∧ u = u / v1 * v1 + u % v1 ∧ 0 ≤ u % v1 ∧ u % v1 < v1 ∧ 0 ≤ u / v1 := by
  have p : 0 < v1 := by have := d.v1l; omega
  have h1 := Int.mul_ediv_add_emod u v1
  have h2 := Int.emod_nonneg u (Int.ne_of_gt p)
  have h3 := Int.emod_lt_of_pos u p
  rw [Int.mul_comm] at h1
  refine ⟨?_, ?_, by omega, h2, h3, Int.ediv_nonneg d.ul (Int.le_of_lt p)⟩
  · refine (Int.le_ediv_iff_mul_le p).2 ?_
    have e : Q * Y = Q * v1 * 4294967296 + Q * v0 := by rw [d.hY, Int.mul_add, Int.mul_assoc]
    have := d.hQ; have := d.Rl; have := d.nh
    have := Int.mul_nonneg d.Q0 d.v0l
    generalize Q * Y = C at *
    generalize Q * v1 = A at *
    generalize Q * v0 = B at *
    omega
  · have : u / v1 < 4294967298 := by
      apply Int.ediv_lt_of_lt_mul p
      have := d.uh; have := d.hY; have := d.v1l; have := d.v0h
      omega
    omega
theorem Digit.mulb (d : Digit u n Y v1 v0 Q R) (q : Int) (h0 : 0 ≤ q) (h1 : q < 4294967296) : 0 ≤ q * v0 ∧ q * v0 < 18446744073709551616 := by
  refine ⟨Int.mul_nonneg h0 d.v0l, ?_⟩
  have h2 := Int.mul_le_mul_of_nonneg_right (show q ≤ 4294967295 by omega) d.v0l
  have := d.v0h
  omega
theorem Digit.rest (d : Digit u n Y v1 v0 Q R) (hYh : Y < 18446744073709551616) : IntKind.u64.wrap (IntKind.u64.wrap (IntKind.u64.wrap (u * 4294967296) + n) - IntKind.u64.wrap (Q * Y)) = R := by
  simp only [IntKind.wrap_u64]
  have := d.hQ; have := d.Rl; have := d.Rh
  generalize Q * Y = C at *
  omega
end
set_option maxHeartbeats 4000000 in
set_option maxRecDepth 100000 in
theorem div64_core (h l y s Y v1 v0 u ul n1 n0 Q1 R1 Q0 R0 : Int) (w : World)
    (hh : h < y) (hy0 : (y == 0) = false) (hh0 : (h == 0) = false) (_hnn : 0 ≤ h) (_hyh : y < 18446744073709551616)
    (LZ : ∀ v, Calls Tryz.prog 275 #[.int .u64 y] v fun e v' => e = .returned (.int .i64 s) ∧ v = v')
    (s0 : 0 ≤ s) (s1 : s < 64)
    (e1 : IntKind.u64.wrap (y * 2 ^ s.toNat) = Y) (e2 : Y / 4294967296 = v1) (e3 : bits .and .u64 Y 4294967295 = v0)
    (e4 : bits .or .u64 (IntKind.u64.wrap (h * 2 ^ s.toNat)) (l / 2 ^ (64 - s).toNat) = u) (e5 : IntKind.u64.wrap (l * 2 ^ s.toNat) = ul)
    (e6 : ul / 4294967296 = n1) (e7 : bits .and .u64 ul 4294967295 = n0)
    (qi ri qj rj : Int) (e8 : IntKind.u64.wrap (u.tdiv v1) = qi) (e9 : IntKind.u64.wrap (u - IntKind.u64.wrap (qi * v1)) = ri)
    (e10 : IntKind.u64.wrap (R1.tdiv v1) = qj) (e11 : IntKind.u64.wrap (R1 - IntKind.u64.wrap (qj * v1)) = rj)
    (si : Q1 ≤ qi ∧ qi ≤ 4294967297 ∧ u = qi * v1 + ri ∧ 0 ≤ ri ∧ ri < v1) (sj : Q0 ≤ qj ∧ qj ≤ 4294967297 ∧ R1 = qj * v1 + rj ∧ 0 ≤ rj ∧ rj < v1)
    (_y0 : 0 ≤ Y) (_ul0 : 0 ≤ ul) (_l0 : 0 ≤ l) (d1 : Digit u n1 Y v1 v0 Q1 R1) (d0 : Digit R1 n0 Y v1 v0 Q0 R0) (hYh : Y < 18446744073709551616) :
    Calls Tryz.prog 232 #[.int .u64 h, .int .u64 l, .int .u64 y] w fun e w' => e = .returned (.tuple #[.int .u64 (Q1 * 4294967296 + Q0), .int .u64 (R0 / 2 ^ s.toNat)]) ∧ w = w' := by
  have LZ' := Lib.hid LZ
  have D1 := Lib.hid d1
  have D0 := Lib.hid d0
  have HY := Lib.hid hYh
  have V1 := d1.v1l
  have V2 := d1.v1h
  have V3 := d1.v0l
  have V4 := d1.v0h
  have U0 := d1.ul
  have NN1 := d1.nl
  have NN2 := d1.nh
  have hg : ¬ y ≤ h := by omega
  clear LZ d1 d0 hYh
  go_enter Tryz.func232, Tryz.ntmps232
  go_wp2_with fail; refine (LZ'.out _).mono ?_; rintro e w' ⟨rfl, rfl⟩
  obtain ⟨si1, si2, si3, si4, si5⟩ := si
  obtain ⟨sj1, sj2, sj3, sj4, sj5⟩ := sj
  have SI := Lib.hid si3
  have SJ := Lib.hid sj3
  have f1 := D1.out.rest HY.out
  have f2 := D0.out.rest HY.out
  have U1 := D0.out.ul
  have NN3 := D0.out.nl
  have NN4 := D0.out.nh
  have QQ1 := D1.out.Q0
  have QQ2 := D1.out.Qh
  have QQ3 := D0.out.Q0
  have QQ4 := D0.out.Qh
  clear si3 sj3
  go_wp2_with fail
  go_loop [15, 16] (fun a b => ∃ q r : Int, a = .int .u64 q ∧ b = .int .u64 r ∧ Q1 ≤ q ∧ q ≤ 4294967297 ∧ u = q * v1 + r ∧ 0 ≤ r ∧ r < 4294967296) (fun a _ => (intOf a - Q1).toNat)
  case atStart => exact ⟨qi, ri, rfl, rfl, by omega, by omega, SI.out, by omega, by omega⟩
  case round =>
    obtain ⟨q, r, rfl, rfl, q1, q2, hu, r1, r2⟩ := hrel
    have LI := Lib.hid (D1.out.le_iff q r hu)
    have HU := Lib.hid hu
    have QQ := D1.out.Q0
    clear hu
    by_cases c : q < 4294967296
    · obtain ⟨b1, b2⟩ := D1.out.mulb q (by omega) c
      by_cases k : q * v0 ≤ 4294967296 * r + n1
      · have G := (show q = Q1 from by have := LI.out.1 k; omega)
        have g1 : ¬ 4294967296 ≤ q := by omega
        have g2 : ¬ 4294967296 * r + n1 < q * v0 := by omega
        clear c k LI HU
        subst G
        go_wp2_with fail
        go_loop [18, 16] (fun a b => ∃ q r : Int, a = .int .u64 q ∧ b = .int .u64 r ∧ Q0 ≤ q ∧ q ≤ 4294967297 ∧ R1 = q * v1 + r ∧ 0 ≤ r ∧ r < 4294967296) (fun a _ => (intOf a - Q0).toNat)
        case atStart => exact ⟨qj, rj, rfl, rfl, by omega, by omega, SJ.out, by omega, by omega⟩
        case round =>
          obtain ⟨q, r, rfl, rfl, q1, q2, hu, r1, r2⟩ := hrel
          have LI := Lib.hid (D0.out.le_iff q r hu)
          have HU := Lib.hid hu
          have QQ := D0.out.Q0
          clear hu
          by_cases c : q < 4294967296
          · obtain ⟨b1, b2⟩ := D0.out.mulb q (by omega) c
            by_cases k : q * v0 ≤ 4294967296 * r + n0
            · have G := (show q = Q0 from by have := LI.out.1 k; omega)
              have g1 : ¬ 4294967296 ≤ q := by omega
              have g2 : ¬ 4294967296 * r + n0 < q * v0 := by omega
              clear c k LI HU
              subst G
              go_wp2_with fail
              go_ret2
              exact ⟨rfl, rfl⟩
            · have K := Lib.hid (show Q0 ≤ q - 1 from by have := mt LI.out.2 k; omega)
              have q3 : 1 ≤ q := by have := K.out; omega
              have g1 : ¬ 4294967296 ≤ q := by omega
              have g2 : 4294967296 * r + n0 < q * v0 := by omega
              have e : R1 = (q - 1) * v1 + (r + v1) := by rw [Int.sub_mul, Int.one_mul, HU.out]; omega
              have LJ := Lib.hid (D0.out.le_iff (q - 1) (r + v1) e)
              have E := Lib.hid e
              clear c k e
              by_cases z : 4294967296 ≤ r + v1
              · have G : q = Q0 + 1 := by
                  have := LJ.out.1 (by have := (D0.out.mulb (q - 1) (by omega) (by omega)).2; have := D0.out.nl; omega)
                  have := K.out; omega
                clear LI HU LJ E K
                subst G
                go_wp2_with fail
                go_ret2
                exact ⟨rfl, rfl⟩
              · go_wp2_with fail
                go_round
                case rel => exact ⟨q - 1, r + v1, rfl, rfl, K.out, by omega, E.out, by omega, by omega⟩
                case measure => have := K.out; simp [intOf]; omega
          · have K := Lib.hid (show Q0 ≤ q - 1 from by have := D0.out.Qh; omega)
            have g1 : 4294967296 ≤ q := by omega
            have e : R1 = (q - 1) * v1 + (r + v1) := by rw [Int.sub_mul, Int.one_mul, HU.out]; omega
            have LJ := Lib.hid (D0.out.le_iff (q - 1) (r + v1) e)
            have E := Lib.hid e
            clear c e
            by_cases z : 4294967296 ≤ r + v1
            · have G : q = Q0 + 1 := by
                have m := Int.mul_le_mul_of_nonneg_right (show q - 1 ≤ 4294967296 by omega) V3
                have := LJ.out.1 (by have := D0.out.nl; omega)
                have := K.out; omega
              clear LI HU LJ E K
              subst G
              go_wp2_with fail
              go_ret2
              exact ⟨rfl, rfl⟩
            · go_wp2_with fail
              go_round
              case rel => exact ⟨q - 1, r + v1, rfl, rfl, K.out, by omega, E.out, by omega, by omega⟩
              case measure => have := K.out; simp [intOf]; omega
      · have K := Lib.hid (show Q1 ≤ q - 1 from by have := mt LI.out.2 k; omega)
        have q3 : 1 ≤ q := by have := K.out; omega
        have g1 : ¬ 4294967296 ≤ q := by omega
        have g2 : 4294967296 * r + n1 < q * v0 := by omega
        have e : u = (q - 1) * v1 + (r + v1) := by rw [Int.sub_mul, Int.one_mul, HU.out]; omega
        have LJ := Lib.hid (D1.out.le_iff (q - 1) (r + v1) e)
        have E := Lib.hid e
        clear c k e
        by_cases z : 4294967296 ≤ r + v1
        · have G : q = Q1 + 1 := by
            have := LJ.out.1 (by have := (D1.out.mulb (q - 1) (by omega) (by omega)).2; have := D1.out.nl; omega)
            have := K.out; omega
          clear LI HU LJ E K
          subst G
          go_wp2_with fail
          go_loop [18, 16] (fun a b => ∃ q r : Int, a = .int .u64 q ∧ b = .int .u64 r ∧ Q0 ≤ q ∧ q ≤ 4294967297 ∧ R1 = q * v1 + r ∧ 0 ≤ r ∧ r < 4294967296) (fun a _ => (intOf a - Q0).toNat)
          case atStart => exact ⟨qj, rj, rfl, rfl, by omega, by omega, SJ.out, by omega, by omega⟩
          case round =>
            obtain ⟨q, r, rfl, rfl, q1, q2, hu, r1, r2⟩ := hrel
            have LI := Lib.hid (D0.out.le_iff q r hu)
            have HU := Lib.hid hu
            have QQ := D0.out.Q0
            clear hu
            by_cases c : q < 4294967296
            · obtain ⟨b1, b2⟩ := D0.out.mulb q (by omega) c
              by_cases k : q * v0 ≤ 4294967296 * r + n0
              · have G := (show q = Q0 from by have := LI.out.1 k; omega)
                have g1 : ¬ 4294967296 ≤ q := by omega
                have g2 : ¬ 4294967296 * r + n0 < q * v0 := by omega
                clear c k LI HU
                subst G
                go_wp2_with fail
                go_ret2
                exact ⟨rfl, rfl⟩
              · have K := Lib.hid (show Q0 ≤ q - 1 from by have := mt LI.out.2 k; omega)
                have q3 : 1 ≤ q := by have := K.out; omega
                have g1 : ¬ 4294967296 ≤ q := by omega
                have g2 : 4294967296 * r + n0 < q * v0 := by omega
                have e : R1 = (q - 1) * v1 + (r + v1) := by rw [Int.sub_mul, Int.one_mul, HU.out]; omega
                have LJ := Lib.hid (D0.out.le_iff (q - 1) (r + v1) e)
                have E := Lib.hid e
                clear c k e
                by_cases z : 4294967296 ≤ r + v1
                · have G : q = Q0 + 1 := by
                    have := LJ.out.1 (by have := (D0.out.mulb (q - 1) (by omega) (by omega)).2; have := D0.out.nl; omega)
                    have := K.out; omega
                  clear LI HU LJ E K
                  subst G
                  go_wp2_with fail
                  go_ret2
                  exact ⟨rfl, rfl⟩
                · go_wp2_with fail
                  go_round
                  case rel => exact ⟨q - 1, r + v1, rfl, rfl, K.out, by omega, E.out, by omega, by omega⟩
                  case measure => have := K.out; simp [intOf]; omega
            · have K := Lib.hid (show Q0 ≤ q - 1 from by have := D0.out.Qh; omega)
              have g1 : 4294967296 ≤ q := by omega
              have e : R1 = (q - 1) * v1 + (r + v1) := by rw [Int.sub_mul, Int.one_mul, HU.out]; omega
              have LJ := Lib.hid (D0.out.le_iff (q - 1) (r + v1) e)
              have E := Lib.hid e
              clear c e
              by_cases z : 4294967296 ≤ r + v1
              · have G : q = Q0 + 1 := by
                  have m := Int.mul_le_mul_of_nonneg_right (show q - 1 ≤ 4294967296 by omega) V3
                  have := LJ.out.1 (by have := D0.out.nl; omega)
                  have := K.out; omega
                clear LI HU LJ E K
                subst G
                go_wp2_with fail
                go_ret2
                exact ⟨rfl, rfl⟩
              · go_wp2_with fail
                go_round
                case rel => exact ⟨q - 1, r + v1, rfl, rfl, K.out, by omega, E.out, by omega, by omega⟩
                case measure => have := K.out; simp [intOf]; omega
        · go_wp2_with fail
          go_round
          case rel => exact ⟨q - 1, r + v1, rfl, rfl, K.out, by omega, E.out, by omega, by omega⟩
          case measure => have := K.out; simp [intOf]; omega
    · have K := Lib.hid (show Q1 ≤ q - 1 from by have := D1.out.Qh; omega)
      have g1 : 4294967296 ≤ q := by omega
      have e : u = (q - 1) * v1 + (r + v1) := by rw [Int.sub_mul, Int.one_mul, HU.out]; omega
      have LJ := Lib.hid (D1.out.le_iff (q - 1) (r + v1) e)
      have E := Lib.hid e
      clear c e
      by_cases z : 4294967296 ≤ r + v1
      · have G : q = Q1 + 1 := by
          have m := Int.mul_le_mul_of_nonneg_right (show q - 1 ≤ 4294967296 by omega) V3
          have := LJ.out.1 (by have := D1.out.nl; omega)
          have := K.out; omega
        clear LI HU LJ E K
        subst G
        go_wp2_with fail
        go_loop [18, 16] (fun a b => ∃ q r : Int, a = .int .u64 q ∧ b = .int .u64 r ∧ Q0 ≤ q ∧ q ≤ 4294967297 ∧ R1 = q * v1 + r ∧ 0 ≤ r ∧ r < 4294967296) (fun a _ => (intOf a - Q0).toNat)
        case atStart => exact ⟨qj, rj, rfl, rfl, by omega, by omega, SJ.out, by omega, by omega⟩
        case round =>
          obtain ⟨q, r, rfl, rfl, q1, q2, hu, r1, r2⟩ := hrel
          have LI := Lib.hid (D0.out.le_iff q r hu)
          have HU := Lib.hid hu
          have QQ := D0.out.Q0
          clear hu
          by_cases c : q < 4294967296
          · obtain ⟨b1, b2⟩ := D0.out.mulb q (by omega) c
            by_cases k : q * v0 ≤ 4294967296 * r + n0
            · have G := (show q = Q0 from by have := LI.out.1 k; omega)
              have g1 : ¬ 4294967296 ≤ q := by omega
              have g2 : ¬ 4294967296 * r + n0 < q * v0 := by omega
              clear c k LI HU
              subst G
              go_wp2_with fail
              go_ret2
              exact ⟨rfl, rfl⟩
            · have K := Lib.hid (show Q0 ≤ q - 1 from by have := mt LI.out.2 k; omega)
              have q3 : 1 ≤ q := by have := K.out; omega
              have g1 : ¬ 4294967296 ≤ q := by omega
              have g2 : 4294967296 * r + n0 < q * v0 := by omega
              have e : R1 = (q - 1) * v1 + (r + v1) := by rw [Int.sub_mul, Int.one_mul, HU.out]; omega
              have LJ := Lib.hid (D0.out.le_iff (q - 1) (r + v1) e)
              have E := Lib.hid e
              clear c k e
              by_cases z : 4294967296 ≤ r + v1
              · have G : q = Q0 + 1 := by
                  have := LJ.out.1 (by have := (D0.out.mulb (q - 1) (by omega) (by omega)).2; have := D0.out.nl; omega)
                  have := K.out; omega
                clear LI HU LJ E K
                subst G
                go_wp2_with fail
                go_ret2
                exact ⟨rfl, rfl⟩
              · go_wp2_with fail
                go_round
                case rel => exact ⟨q - 1, r + v1, rfl, rfl, K.out, by omega, E.out, by omega, by omega⟩
                case measure => have := K.out; simp [intOf]; omega
          · have K := Lib.hid (show Q0 ≤ q - 1 from by have := D0.out.Qh; omega)
            have g1 : 4294967296 ≤ q := by omega
            have e : R1 = (q - 1) * v1 + (r + v1) := by rw [Int.sub_mul, Int.one_mul, HU.out]; omega
            have LJ := Lib.hid (D0.out.le_iff (q - 1) (r + v1) e)
            have E := Lib.hid e
            clear c e
            by_cases z : 4294967296 ≤ r + v1
            · have G : q = Q0 + 1 := by
                have m := Int.mul_le_mul_of_nonneg_right (show q - 1 ≤ 4294967296 by omega) V3
                have := LJ.out.1 (by have := D0.out.nl; omega)
                have := K.out; omega
              clear LI HU LJ E K
              subst G
              go_wp2_with fail
              go_ret2
              exact ⟨rfl, rfl⟩
            · go_wp2_with fail
              go_round
              case rel => exact ⟨q - 1, r + v1, rfl, rfl, K.out, by omega, E.out, by omega, by omega⟩
              case measure => have := K.out; simp [intOf]; omega
      · go_wp2_with fail
        go_round
        case rel => exact ⟨q - 1, r + v1, rfl, rfl, K.out, by omega, E.out, by omega, by omega⟩
        case measure => have := K.out; simp [intOf]; omega
theorem and_32 (x : Int) (h1 : 0 ≤ x) (h2 : x < 18446744073709551616) : bits .and .u64 x 4294967295 = x % 4294967296 :=
  and_mask x 32 h1 h2 (by omega)
theorem wrap_tdiv (a b : Int) (h0 : 0 ≤ a) (hb : 0 < b) (h1 : a < 18446744073709551616) : IntKind.u64.wrap (a.tdiv b) = a / b := by
  rw [IntKind.wrap_u64, Int.tdiv_eq_ediv_of_nonneg h0, Int.emod_eq_of_lt (Int.ediv_nonneg h0 (Int.le_of_lt hb)) (by have := Int.ediv_le_self b h0; omega)]
theorem wrap_rest (a b q : Int) (h : a = q * b + a % b) (h0 : 0 ≤ a) (h1 : a < 18446744073709551616) (h2 : 0 ≤ a % b) (hq : 0 ≤ q * b) : IntKind.u64.wrap (a - IntKind.u64.wrap (q * b)) = a % b := by
  simp only [IntKind.wrap_u64]
  generalize q * b = C at *
  omega
/-- math/bits.Div64 where the upper half is 0. -/
theorem div64_short (l y : Int) (w : World) (h0 : 0 ≤ l) (h1 : l < 18446744073709551616) (hy : 0 < y) :
    Calls Tryz.prog 232 #[.int .u64 0, .int .u64 l, .int .u64 y] w fun e w' => e = .returned (.tuple #[.int .u64 (l / y), .int .u64 (l % y)]) ∧ Ext w w' := by
  have hy0 : (y == 0) = false := by rw [beq_eq_false_iff_ne]; omega
  have hy1 : 1 ≤ y := by omega
  have hy2 : ¬ y ≤ 0 := by omega
  have t1 := wrap_tdiv l y h0 hy h1
  have t2 : l.tmod y = l % y := Int.tmod_eq_emod_of_nonneg h0
  go_enter Tryz.func232, Tryz.ntmps232
  go_wp2_with fail
  go_quiet (fail)
  go_wp2_with fail
  go_ret2
  exact ⟨rfl, Ext.q⟩
theorem Digit.make (u n Y : Int) (hY : 9223372036854775808 ≤ Y) (hYh : Y < 18446744073709551616) (u0 : 0 ≤ u) (uh : u < Y) (n0 : 0 ≤ n) (nh : n < 4294967296) :
    Digit u n Y (Y / 4294967296) (Y % 4294967296) ((u * 4294967296 + n) / Y) ((u * 4294967296 + n) % Y) :=
  ⟨by omega, by omega, by omega, by omega, by omega, u0, uh, n0, nh, by rw [Int.mul_comm _ Y]; exact (Int.mul_ediv_add_emod _ _).symm, Int.emod_nonneg _ (by omega), Int.emod_lt_of_pos _ (by omega)⟩
theorem blen_ge (x : Int) (k : Nat) (hk : k ≤ 64) (h : 2 ^ k ≤ x) (hx : x < 18446744073709551616) : (k : Int) < blen x := by
  have p := pow_pos' k
  have h2 := blen_lt x (by omega) hx
  have b0 := blen_nn x
  rcases Int.lt_or_le (k : Int) (blen x) with h3 | h3
  · exact h3
  · have : (blen x).toNat ≤ k := by omega
    have h4 : (2 : Int) ^ (blen x).toNat ≤ 2 ^ k := by
      have e : (2 : Int) ^ k = 2 ^ (blen x).toNat * 2 ^ (k - (blen x).toNat) := by rw [← Int.pow_add]; congr 1; omega
      have p1 := pow_pos' (k - (blen x).toNat)
      have p2 := pow_pos' (blen x).toNat
      have := Int.mul_le_mul_of_nonneg_left (show (1 : Int) ≤ 2 ^ (k - (blen x).toNat) by omega) (Int.le_of_lt p2)
      rw [Int.mul_one, ← e] at this
      exact this
    omega
theorem norm64 (y : Int) (hy : 0 < y) (hyh : y < 18446744073709551616) : ∃ s : Nat, 64 - blen y = (s : Int) ∧ s < 64 ∧ 9223372036854775808 ≤ y * 2 ^ s ∧ y * 2 ^ s < 18446744073709551616 := by
  have b0 := blen_nn y
  have b1 := blen_le y 64 (by omega) (by omega)
  have b2 := blen_lt y (by omega) hyh
  have b3 := blen_ge y 0 (by omega) (by simp; omega) hyh
  obtain ⟨b, hb⟩ : ∃ b : Nat, blen y = (b : Int) := ⟨(blen y).toNat, by omega⟩
  rw [hb] at b1 b2 b3 ⊢
  rw [Int.toNat_natCast] at b2
  refine ⟨64 - b, by omega, by omega, ?_, ?_⟩
  · have h : 2 ^ (b - 1) ≤ y := by
      rcases Int.lt_or_le y (2 ^ (b - 1)) with h | h
      · have := blen_le y (b - 1) (by omega) h
        omega
      · exact h
    have p := pow_pos' (64 - b)
    have h2 := Int.mul_le_mul_of_nonneg_right h (Int.le_of_lt p)
    rw [← Int.pow_add, show b - 1 + (64 - b) = 63 by omega] at h2
    exact h2
  · have p := pow_pos' (64 - b)
    have h2 := Int.mul_lt_mul_of_pos_right b2 p
    rw [← Int.pow_add, show b + (64 - b) = 64 by omega] at h2
    exact h2
theorem div64_any (N y : Int) (w : World) (hN : U128 N) (hy : hi N < y) (hyh : y < 18446744073709551616) :
    Calls Tryz.prog 232 #[.int .u64 (hi N), .int .u64 (lo N), .int .u64 y] w fun e w' => e = .returned (.tuple #[.int .u64 (N / y), .int .u64 (N % y)]) ∧ Ext w w' := by
  have hl := hi_lo N
  have l0 := lo_nn N
  have l1 := lo_lt N
  obtain ⟨b1, b2⟩ := hN.b
  by_cases hz : hi N = 0
  · have e : lo N = N := by omega
    have := div64_short (lo N) y w l0 l1 (by omega)
    rw [hz, e]
    rw [e] at this
    exact this
  · obtain ⟨s, hs, s1, s2, s3⟩ := norm64 y (by omega) hyh
    have p := pow_pos' s
    have ea : ((s : Int)).toNat = s := by omega
    have lz := fun v => lz64_any y v (by omega) hyh
    rw [hs] at lz
    -- N 2^s
    have hb : N * 2 ^ s < y * 2 ^ s * 18446744073709551616 := by
      have h1 : N < y * 18446744073709551616 := by omega
      have := Int.mul_lt_mul_of_pos_right h1 p
      rwa [Int.mul_right_comm] at this
    obtain ⟨g1, g2⟩ := shl_hi N (s : Int) hN.1 (by omega) (by omega) (by rw [ea]; omega)
    rw [ea] at g1 g2
    have n0 : 0 ≤ N * 2 ^ s := Int.mul_nonneg hN.1 (Int.le_of_lt p)
    have m1 := hi_lo (N * 2 ^ s)
    have m2 := lo_nn (N * 2 ^ s)
    have m3 := lo_lt (N * 2 ^ s)
    have u0 : 0 ≤ hi (N * 2 ^ s) := by unfold hi; omega
    have uh : hi (N * 2 ^ s) < y * 2 ^ s := by omega
    have D1 := Digit.make (hi (N * 2 ^ s)) (lo (N * 2 ^ s) / 4294967296) (y * 2 ^ s) s2 s3 u0 uh (by omega) (by omega)
    have D0 := Digit.make ((hi (N * 2 ^ s) * 4294967296 + lo (N * 2 ^ s) / 4294967296) % (y * 2 ^ s)) (lo (N * 2 ^ s) % 4294967296) (y * 2 ^ s) s2 s3 D1.Rl D1.Rh (by omega) (by omega)
    obtain ⟨i1, i2, i3, i4, i5, i6⟩ := D1.start
    obtain ⟨j1, j2, j3, j4, j5, j6⟩ := D0.start
    have v1 := D1.v1l
    have R1h := D1.Rh
    have R1l := D1.Rl
    have core := div64_core (hi N) (lo N) y (s : Int) (y * 2 ^ s) (y * 2 ^ s / 4294967296) (y * 2 ^ s % 4294967296) (hi (N * 2 ^ s)) (lo (N * 2 ^ s)) (lo (N * 2 ^ s) / 4294967296) (lo (N * 2 ^ s) % 4294967296)
      _ _ _ _ w hy (by rw [beq_eq_false_iff_ne]; omega) (by rw [beq_eq_false_iff_ne]; exact hz) b1 hyh lz (by omega) (by omega)
      (by rw [ea, IntKind.wrap_u64, Int.emod_eq_of_lt (by omega) s3]) rfl (and_32 _ (by omega) s3) (by rw [ea]; exact g1) (by rw [ea]; exact g2) rfl (and_32 _ m2 m3)
      _ _ _ _ (wrap_tdiv _ _ u0 (by omega) (by omega)) (wrap_rest _ _ _ i3 u0 (by omega) i4 (Int.mul_nonneg i6 (by omega)))
      (wrap_tdiv _ _ R1l (by omega) (by omega)) (wrap_rest _ _ _ j3 R1l (by omega) j4 (Int.mul_nonneg j6 (by omega)))
      ⟨i1, i2, i3, i4, i5⟩ ⟨j1, j2, j3, j4, j5⟩ (by omega) m2 l0 D1 D0 s3
    -- the plain law
    have q1 := D1.hQ
    have q0 := D0.hQ
    have r0 := D0.Rl
    have r1 := D0.Rh
    generalize hQ1 : (hi (N * 2 ^ s) * 4294967296 + lo (N * 2 ^ s) / 4294967296) / (y * 2 ^ s) = Q1 at *
    generalize hR1 : (hi (N * 2 ^ s) * 4294967296 + lo (N * 2 ^ s) / 4294967296) % (y * 2 ^ s) = R1 at *
    generalize hQ0 : (R1 * 4294967296 + lo (N * 2 ^ s) % 4294967296) / (y * 2 ^ s) = Q0 at *
    generalize hR0 : (R1 * 4294967296 + lo (N * 2 ^ s) % 4294967296) % (y * 2 ^ s) = R0 at *
    have tot : N * 2 ^ s = (Q1 * 4294967296 + Q0) * (y * 2 ^ s) + R0 := by
      rw [Int.add_mul, Int.mul_right_comm Q1]
      generalize Q1 * (y * 2 ^ s) = A at *
      generalize Q0 * (y * 2 ^ s) = B at *
      omega
    have fac : R0 = 2 ^ s * (N - (Q1 * 4294967296 + Q0) * y) := by
      rw [Int.mul_sub, Int.mul_comm _ N, Int.mul_left_comm, Int.mul_comm (2 ^ s) y]
      omega
    have rq : R0 / 2 ^ s = N - (Q1 * 4294967296 + Q0) * y := by
      rw [fac, Int.mul_ediv_cancel_left _ (Int.ne_of_gt p)]
    have t0 : 0 ≤ N - (Q1 * 4294967296 + Q0) * y := by
      rw [← rq]; exact Int.ediv_nonneg r0 (Int.le_of_lt p)
    have t1 : N - (Q1 * 4294967296 + Q0) * y < y := by
      rw [← rq]; exact Int.ediv_lt_of_lt_mul p r1
    have dq : N / y = Q1 * 4294967296 + Q0 ∧ N % y = N - (Q1 * 4294967296 + Q0) * y := by
      have e : N = (N - (Q1 * 4294967296 + Q0) * y) + y * (Q1 * 4294967296 + Q0) := by rw [Int.mul_comm y]; omega
      constructor
      · rw [e, Int.add_mul_ediv_left _ _ (by omega : y ≠ 0), Int.ediv_eq_zero_of_lt t0 t1, Int.zero_add]
      · have e2 : N % y = (N - (Q1 * 4294967296 + Q0) * y) % y := by
          conv => lhs; rw [e]
          exact Int.add_mul_emod_self_left _ _ _
        rw [e2, Int.emod_eq_of_lt t0 t1]
    rw [dq.1, dq.2, ← rq]
    rw [ea] at core
    exact core.mono fun e w' h => ⟨h.1, by rw [h.2]; exact Ext.refl _⟩
end Go.Proofs.YtkegefnpmijfiaaGreat
