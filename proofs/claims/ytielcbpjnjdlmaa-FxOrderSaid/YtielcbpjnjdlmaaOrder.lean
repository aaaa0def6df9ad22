/- FxOrder: the walk. -/
import Derived.Test.YtielcbpjnjdlmaaText
import Derived.Test.YtielcbpjnjdlmaaTwos
import Derived.Test.YtielcbpjnjdlmaaWithin
import Derived.Test.YtielcbpjnjdlmaaNears
namespace Go.Proofs.Ytielcbpjnjdlmaa
open Go.RowKit
/-- Products and quotients by a number above 0 rise as their numbers do. -/
theorem order_some {lo hi C f : Int} (wl : Wd lo) (wh : Wd hi) (wC : Wd C) (gf : gdF f = true) (c0 : 0 < C) (h : lo ≤ hi) :
    ∃ x e y g u h v j : Int, (e = 0 → g = 0 → x ≤ y) ∧ (h = 0 → j = 0 → u ≤ v) ∧
      (∀ w, Calls Try.prog 38 #[.int .i64 lo, .int .i64 C, .int .i64 f] w fun z w' => z = .returned (.tuple #[.int .i64 x, .int .i64 e]) ∧ Ext w w') ∧
      (∀ w, Calls Try.prog 38 #[.int .i64 hi, .int .i64 C, .int .i64 f] w fun z w' => z = .returned (.tuple #[.int .i64 y, .int .i64 g]) ∧ Ext w w') ∧
      (∀ w, Calls Try.prog 39 #[.int .i64 lo, .int .i64 C, .int .i64 f] w fun z w' => z = .returned (.tuple #[.int .i64 u, .int .i64 h]) ∧ Ext w w') ∧
      (∀ w, Calls Try.prog 39 #[.int .i64 hi, .int .i64 C, .int .i64 f] w fun z w' => z = .returned (.tuple #[.int .i64 v, .int .i64 j]) ∧ Ext w w') := by
  have key : ∀ {p q : Int}, p ≤ q → we p = 0 → we q = 0 → wv p ≤ wv q := fun {p q} hpq hp hq => by
    cases gp : gd p
    · rw [we_no gp] at hp; cases hp
    · cases gq : gd q
      · rw [we_no gq] at hq; cases hq
      · rw [wv_of gp, wv_of gq]; exact hpq
  refine ⟨_, _, _, _, _, _, _, _, ?_, ?_, fun w => Mul_any lo C f w wl wC gf, fun w => Mul_any hi C f w wh wC gf, fun w => Div_any lo C f w wl wC gf, fun w => Div_any hi C f w wh wC gf⟩
  · exact key (near_le (p2_pos f) (Int.mul_le_mul_of_nonneg_right h (by omega)))
  · rw [dv_ok (by omega), de_ok (by omega), dv_ok (by omega), de_ok (by omega)]
    exact key (rdiv_le f c0 h)
theorem str_facts {s : ByteArray} {c : UInt8} {t : List UInt8} (h : s.data.toList = c :: t) : (s = ByteArray.empty) = False ∧ 0 < s.size ∧ ((s.size : Int) == 0) = false ∧ ∀ k : 0 < s.size, s[0]'k = c := by
  obtain ⟨d⟩ := s
  obtain ⟨l⟩ := d
  have h : l = c :: t := h
  subst h
  refine ⟨eq_false (fun e => ?_), by simp [ByteArray.size], ?_, fun k => rfl⟩
  · have := congrArg ByteArray.size e
    simp [ByteArray.size] at this
  · rw [beq_eq_false_iff_ne]; simp [ByteArray.size]; omega
set_option maxHeartbeats 4000000 in
set_option maxRecDepth 100000 in
theorem order_walk (b o len cap : Nat) (w : World) (_hl : len ≤ 9223372036854775807) (hT : TwosAt w b o len) :
    Calls Try.prog 9 #[.slice (some ⟨b, o, none⟩) len cap] w fun e w' => e = .returned (.bool true) ∧ Ext w w' := by
  have HT := Lib.hid hT
  clear hT
  go_enter Try.func9, Try.ntmps9
  go_wp2_with fail
  go_loopw [3] (fun i wr => ∃ k : Nat, k ≤ len ∧ k ≤ 30 ∧ i = .int .i64 k ∧ Ext w wr) (fun i _ => len - (intOf i).toNat)
  case atStart => exact ⟨0, Nat.zero_le _, by omega, rfl, Ext.refl _⟩
  case round =>
    obtain ⟨k, hk, hk2, rfl, hext⟩ := hrel
    by_cases hlt : k + 1 < len ∧ k < 30
    · obtain ⟨h1, h2⟩ := hlt
      obtain ⟨A, C, F, N', D', H', L', K', t0, hA, hC, hF, -⟩ := HT.out k (by omega)
      obtain ⟨B, C2, F2, N2, D2, H2, L2, K2, t1, hB, -⟩ := HT.out (k + 1) h1
      have d0 := (t0.ext hext).c0
      have d1 := (t0.ext hext).c1
      have d2 := (t0.ext hext).c2
      have d3 := (t1.ext hext).c0
      clear t0 t1
      obtain ⟨f, gf, FC⟩ := F_some F
      have F1 := Lib.hid FC
      clear FC
      obtain ⟨fb1, fb2⟩ := gdF_iff.1 gf
      cases gA : gd A
      · go_wp2_with fail; refine (F1.out _).mono ?_; rintro e w' ⟨rfl, rfl⟩
        go_wp2_with (go_at_call 37; refine (may2_any _ _).mono ?_; rintro e w' ⟨rfl, rfl⟩)
        go_roundw
        case rel => exact ⟨k + 1, by omega, by omega, by go_num, (by repeat (first | with_reducible exact Ext.refl _ | with_reducible apply Ext.drew | with_reducible apply Ext.drewN | with_reducible apply Ext.alloc | ((with_reducible refine Ext.setCell ?_ ?_ _); rotate_left; focus (first | (simp; done) | (simp; omega) | omega)) | with_reducible refine Ext.tr ?_ x1 | with_reducible refine Ext.tr ?_ x2 | with_reducible refine Ext.tr ?_ x3 | with_reducible refine Ext.tr ?_ x4 | with_reducible refine Ext.tr ?_ x5 | with_reducible refine Ext.tr ?_ hx | with_reducible refine Ext.tr ?_ hext | with_reducible assumption))⟩
        case measure => simp [intOf]; omega
      · cases gB : gd B
        · go_wp2_with fail; refine (F1.out _).mono ?_; rintro e w' ⟨rfl, rfl⟩
          go_wp2_with (go_at_call 37; refine (may2_any _ _).mono ?_; rintro e w' ⟨rfl, rfl⟩)
          go_roundw
          case rel => exact ⟨k + 1, by omega, by omega, by go_num, (by repeat (first | with_reducible exact Ext.refl _ | with_reducible apply Ext.drew | with_reducible apply Ext.drewN | with_reducible apply Ext.alloc | ((with_reducible refine Ext.setCell ?_ ?_ _); rotate_left; focus (first | (simp; done) | (simp; omega) | omega)) | with_reducible refine Ext.tr ?_ x1 | with_reducible refine Ext.tr ?_ x2 | with_reducible refine Ext.tr ?_ x3 | with_reducible refine Ext.tr ?_ x4 | with_reducible refine Ext.tr ?_ x5 | with_reducible refine Ext.tr ?_ hx | with_reducible refine Ext.tr ?_ hext | with_reducible assumption))⟩
          case measure => simp [intOf]; omega
        · cases gC : gd C
          · go_wp2_with fail; refine (F1.out _).mono ?_; rintro e w' ⟨rfl, rfl⟩
            go_wp2_with (go_at_call 37; refine (may2_any _ _).mono ?_; rintro e w' ⟨rfl, rfl⟩)
            go_roundw
            case rel => exact ⟨k + 1, by omega, by omega, by go_num, (by repeat (first | with_reducible exact Ext.refl _ | with_reducible apply Ext.drew | with_reducible apply Ext.drewN | with_reducible apply Ext.alloc | ((with_reducible refine Ext.setCell ?_ ?_ _); rotate_left; focus (first | (simp; done) | (simp; omega) | omega)) | with_reducible refine Ext.tr ?_ x1 | with_reducible refine Ext.tr ?_ x2 | with_reducible refine Ext.tr ?_ x3 | with_reducible refine Ext.tr ?_ x4 | with_reducible refine Ext.tr ?_ x5 | with_reducible refine Ext.tr ?_ hx | with_reducible refine Ext.tr ?_ hext | with_reducible assumption))⟩
            case measure => simp [intOf]; omega
          · rcases Int.lt_or_le 0 C with c0 | c0
            · have lc : decide (C ≤ 0) = false := by simp; omega
              have wC : Wd C := gd_iff.1 gC
              by_cases hab : A ≤ B
              · have dab : decide (B < A) = false := by simp; omega
                have wl : Wd A := gd_iff.1 gA
                have wh : Wd B := gd_iff.1 gB
                obtain ⟨x, e, y, g, u, h, v, j, hm, hd, C1, C2, C3, C4⟩ := order_some (lo := A) (hi := B) wl wh wC gf c0 hab
                have E1 := Lib.hid C1
                have E2 := Lib.hid C2
                have E3 := Lib.hid C3
                have E4 := Lib.hid C4
                have TX := Lib.hid (fun v => text_any A f v wl.g gf)
                clear C1 C2 C3 C4
                go_wp2_with fail; refine (F1.out _).mono ?_; rintro e w' ⟨rfl, rfl⟩
                go_wp2_with (go_at_call 37; refine (may2_any _ _).mono ?_; rintro e w' ⟨rfl, rfl⟩)
                refine (E1.out _).mono ?_; rintro e v1 ⟨rfl, x1⟩; obtain ⟨c1, f1⟩ := x1.rules; have z1 := x1.size
                go_wp2_with fail; refine (E2.out _).mono ?_; rintro e v2 ⟨rfl, x2⟩; obtain ⟨c2, f2⟩ := x2.rules; have z2 := x2.size
                go_wp2_with fail; refine (E3.out _).mono ?_; rintro e v3 ⟨rfl, x3⟩; obtain ⟨c3, f3⟩ := x3.rules; have z3 := x3.size
                go_wp2_with fail; refine (E4.out _).mono ?_; rintro e v4 ⟨rfl, x4⟩; obtain ⟨c4, f4⟩ := x4.rules; have z4 := x4.size
                clear E1 E2 E3 E4 F1 hA hB hC hF wl wh wC gA gB gC hab
                rcases (by omega : e ≠ 0 ∨ (e = 0 ∧ g ≠ 0) ∨ (e = 0 ∧ g = 0)) with pe | pg | px
                · as_aux_lemma =>
                    have ee : (e == 0) = false := by simp [pe]
                    clear pe hm
                    rcases (by omega : h ≠ 0 ∨ (h = 0 ∧ j ≠ 0) ∨ (h = 0 ∧ j = 0)) with qe | qg | qx
                    · as_aux_lemma =>
                        have eh : (h == 0) = false := by simp [qe]
                        clear qe hd
                        go_wp2_with (go_at_call 35; refine (num2_any _ _).mono ?_; rintro e w' ⟨rfl, rfl⟩)
                        refine (TX.out _).mono ?_; rintro e v5 ⟨c, s, t, rfl, x5, hs, hl, hc⟩; obtain ⟨c5, f5⟩ := x5.rules; have z5 := x5.size
                        obtain ⟨n1, n2, n3, n4⟩ := str_facts hs
                        by_cases ln : A < 0
                        · have dl : decide (A < 0) = true := by simp; omega
                          have n5 : ∀ k : 0 < s.size, (((s[0]'k).toNat : Int) == 45) = true := fun k => by rw [n4 k, hc.2 ln]; decide
                          clear n4 hs hl hc ln TX
                          go_wp2_with (go_at_call 35; refine (num2_any _ _).mono ?_; rintro e w' ⟨rfl, rfl⟩)
                          go_roundw
                          case rel => exact ⟨k + 1, by omega, by omega, by go_num, (by repeat (first | with_reducible exact Ext.refl _ | with_reducible apply Ext.drew | with_reducible apply Ext.drewN | with_reducible apply Ext.alloc | ((with_reducible refine Ext.setCell ?_ ?_ _); rotate_left; focus (first | (simp; done) | (simp; omega) | omega)) | with_reducible refine Ext.tr ?_ x1 | with_reducible refine Ext.tr ?_ x2 | with_reducible refine Ext.tr ?_ x3 | with_reducible refine Ext.tr ?_ x4 | with_reducible refine Ext.tr ?_ x5 | with_reducible refine Ext.tr ?_ hx | with_reducible refine Ext.tr ?_ hext | with_reducible assumption))⟩
                          case measure => simp [intOf]; omega
                        · have dl : decide (A < 0) = false := by simp; omega
                          have n5 : ∀ k : 0 < s.size, (((s[0]'k).toNat : Int) == 45) = false := fun k => by
                            rw [n4 k, beq_eq_false_iff_ne]
                            exact fun e => ln (hc.1 (UInt8.toNat_inj.1 (by have e2 : c.toNat = 45 := Int.ofNat.inj e
                                                                           simpa using e2)))
                          clear n4 hs hl hc ln TX
                          go_wp2_with (go_at_call 35; refine (num2_any _ _).mono ?_; rintro e w' ⟨rfl, rfl⟩)
                          go_roundw
                          case rel => exact ⟨k + 1, by omega, by omega, by go_num, (by repeat (first | with_reducible exact Ext.refl _ | with_reducible apply Ext.drew | with_reducible apply Ext.drewN | with_reducible apply Ext.alloc | ((with_reducible refine Ext.setCell ?_ ?_ _); rotate_left; focus (first | (simp; done) | (simp; omega) | omega)) | with_reducible refine Ext.tr ?_ x1 | with_reducible refine Ext.tr ?_ x2 | with_reducible refine Ext.tr ?_ x3 | with_reducible refine Ext.tr ?_ x4 | with_reducible refine Ext.tr ?_ x5 | with_reducible refine Ext.tr ?_ hx | with_reducible refine Ext.tr ?_ hext | with_reducible assumption))⟩
                          case measure => simp [intOf]; omega
                    · as_aux_lemma =>
                        have eh : (h == 0) = true := by simp [qg.1]
                        have ej : (j == 0) = false := by simp [qg.2]
                        clear qg hd
                        go_wp2_with (go_at_call 35; refine (num2_any _ _).mono ?_; rintro e w' ⟨rfl, rfl⟩)
                        refine (TX.out _).mono ?_; rintro e v5 ⟨c, s, t, rfl, x5, hs, hl, hc⟩; obtain ⟨c5, f5⟩ := x5.rules; have z5 := x5.size
                        obtain ⟨n1, n2, n3, n4⟩ := str_facts hs
                        by_cases ln : A < 0
                        · have dl : decide (A < 0) = true := by simp; omega
                          have n5 : ∀ k : 0 < s.size, (((s[0]'k).toNat : Int) == 45) = true := fun k => by rw [n4 k, hc.2 ln]; decide
                          clear n4 hs hl hc ln TX
                          go_wp2_with (go_at_call 35; refine (num2_any _ _).mono ?_; rintro e w' ⟨rfl, rfl⟩)
                          go_roundw
                          case rel => exact ⟨k + 1, by omega, by omega, by go_num, (by repeat (first | with_reducible exact Ext.refl _ | with_reducible apply Ext.drew | with_reducible apply Ext.drewN | with_reducible apply Ext.alloc | ((with_reducible refine Ext.setCell ?_ ?_ _); rotate_left; focus (first | (simp; done) | (simp; omega) | omega)) | with_reducible refine Ext.tr ?_ x1 | with_reducible refine Ext.tr ?_ x2 | with_reducible refine Ext.tr ?_ x3 | with_reducible refine Ext.tr ?_ x4 | with_reducible refine Ext.tr ?_ x5 | with_reducible refine Ext.tr ?_ hx | with_reducible refine Ext.tr ?_ hext | with_reducible assumption))⟩
                          case measure => simp [intOf]; omega
                        · have dl : decide (A < 0) = false := by simp; omega
                          have n5 : ∀ k : 0 < s.size, (((s[0]'k).toNat : Int) == 45) = false := fun k => by
                            rw [n4 k, beq_eq_false_iff_ne]
                            exact fun e => ln (hc.1 (UInt8.toNat_inj.1 (by have e2 : c.toNat = 45 := Int.ofNat.inj e
                                                                           simpa using e2)))
                          clear n4 hs hl hc ln TX
                          go_wp2_with (go_at_call 35; refine (num2_any _ _).mono ?_; rintro e w' ⟨rfl, rfl⟩)
                          go_roundw
                          case rel => exact ⟨k + 1, by omega, by omega, by go_num, (by repeat (first | with_reducible exact Ext.refl _ | with_reducible apply Ext.drew | with_reducible apply Ext.drewN | with_reducible apply Ext.alloc | ((with_reducible refine Ext.setCell ?_ ?_ _); rotate_left; focus (first | (simp; done) | (simp; omega) | omega)) | with_reducible refine Ext.tr ?_ x1 | with_reducible refine Ext.tr ?_ x2 | with_reducible refine Ext.tr ?_ x3 | with_reducible refine Ext.tr ?_ x4 | with_reducible refine Ext.tr ?_ x5 | with_reducible refine Ext.tr ?_ hx | with_reducible refine Ext.tr ?_ hext | with_reducible assumption))⟩
                          case measure => simp [intOf]; omega
                    · as_aux_lemma =>
                        have eh : (h == 0) = true := by simp [qx.1]
                        have ej : (j == 0) = true := by simp [qx.2]
                        have euv : decide (v < u) = false := by have := hd qx.1 qx.2; simp; omega
                        clear qx hd
                        go_wp2_with (go_at_call 35; refine (num2_any _ _).mono ?_; rintro e w' ⟨rfl, rfl⟩)
                        refine (TX.out _).mono ?_; rintro e v5 ⟨c, s, t, rfl, x5, hs, hl, hc⟩; obtain ⟨c5, f5⟩ := x5.rules; have z5 := x5.size
                        obtain ⟨n1, n2, n3, n4⟩ := str_facts hs
                        by_cases ln : A < 0
                        · have dl : decide (A < 0) = true := by simp; omega
                          have n5 : ∀ k : 0 < s.size, (((s[0]'k).toNat : Int) == 45) = true := fun k => by rw [n4 k, hc.2 ln]; decide
                          clear n4 hs hl hc ln TX
                          go_wp2_with (go_at_call 35; refine (num2_any _ _).mono ?_; rintro e w' ⟨rfl, rfl⟩)
                          go_roundw
                          case rel => exact ⟨k + 1, by omega, by omega, by go_num, (by repeat (first | with_reducible exact Ext.refl _ | with_reducible apply Ext.drew | with_reducible apply Ext.drewN | with_reducible apply Ext.alloc | ((with_reducible refine Ext.setCell ?_ ?_ _); rotate_left; focus (first | (simp; done) | (simp; omega) | omega)) | with_reducible refine Ext.tr ?_ x1 | with_reducible refine Ext.tr ?_ x2 | with_reducible refine Ext.tr ?_ x3 | with_reducible refine Ext.tr ?_ x4 | with_reducible refine Ext.tr ?_ x5 | with_reducible refine Ext.tr ?_ hx | with_reducible refine Ext.tr ?_ hext | with_reducible assumption))⟩
                          case measure => simp [intOf]; omega
                        · have dl : decide (A < 0) = false := by simp; omega
                          have n5 : ∀ k : 0 < s.size, (((s[0]'k).toNat : Int) == 45) = false := fun k => by
                            rw [n4 k, beq_eq_false_iff_ne]
                            exact fun e => ln (hc.1 (UInt8.toNat_inj.1 (by have e2 : c.toNat = 45 := Int.ofNat.inj e
                                                                           simpa using e2)))
                          clear n4 hs hl hc ln TX
                          go_wp2_with (go_at_call 35; refine (num2_any _ _).mono ?_; rintro e w' ⟨rfl, rfl⟩)
                          go_roundw
                          case rel => exact ⟨k + 1, by omega, by omega, by go_num, (by repeat (first | with_reducible exact Ext.refl _ | with_reducible apply Ext.drew | with_reducible apply Ext.drewN | with_reducible apply Ext.alloc | ((with_reducible refine Ext.setCell ?_ ?_ _); rotate_left; focus (first | (simp; done) | (simp; omega) | omega)) | with_reducible refine Ext.tr ?_ x1 | with_reducible refine Ext.tr ?_ x2 | with_reducible refine Ext.tr ?_ x3 | with_reducible refine Ext.tr ?_ x4 | with_reducible refine Ext.tr ?_ x5 | with_reducible refine Ext.tr ?_ hx | with_reducible refine Ext.tr ?_ hext | with_reducible assumption))⟩
                          case measure => simp [intOf]; omega
                · as_aux_lemma =>
                    have ee : (e == 0) = true := by simp [pg.1]
                    have eg : (g == 0) = false := by simp [pg.2]
                    clear pg hm
                    rcases (by omega : h ≠ 0 ∨ (h = 0 ∧ j ≠ 0) ∨ (h = 0 ∧ j = 0)) with qe | qg | qx
                    · as_aux_lemma =>
                        have eh : (h == 0) = false := by simp [qe]
                        clear qe hd
                        go_wp2_with (go_at_call 35; refine (num2_any _ _).mono ?_; rintro e w' ⟨rfl, rfl⟩)
                        refine (TX.out _).mono ?_; rintro e v5 ⟨c, s, t, rfl, x5, hs, hl, hc⟩; obtain ⟨c5, f5⟩ := x5.rules; have z5 := x5.size
                        obtain ⟨n1, n2, n3, n4⟩ := str_facts hs
                        by_cases ln : A < 0
                        · have dl : decide (A < 0) = true := by simp; omega
                          have n5 : ∀ k : 0 < s.size, (((s[0]'k).toNat : Int) == 45) = true := fun k => by rw [n4 k, hc.2 ln]; decide
                          clear n4 hs hl hc ln TX
                          go_wp2_with (go_at_call 35; refine (num2_any _ _).mono ?_; rintro e w' ⟨rfl, rfl⟩)
                          go_roundw
                          case rel => exact ⟨k + 1, by omega, by omega, by go_num, (by repeat (first | with_reducible exact Ext.refl _ | with_reducible apply Ext.drew | with_reducible apply Ext.drewN | with_reducible apply Ext.alloc | ((with_reducible refine Ext.setCell ?_ ?_ _); rotate_left; focus (first | (simp; done) | (simp; omega) | omega)) | with_reducible refine Ext.tr ?_ x1 | with_reducible refine Ext.tr ?_ x2 | with_reducible refine Ext.tr ?_ x3 | with_reducible refine Ext.tr ?_ x4 | with_reducible refine Ext.tr ?_ x5 | with_reducible refine Ext.tr ?_ hx | with_reducible refine Ext.tr ?_ hext | with_reducible assumption))⟩
                          case measure => simp [intOf]; omega
                        · have dl : decide (A < 0) = false := by simp; omega
                          have n5 : ∀ k : 0 < s.size, (((s[0]'k).toNat : Int) == 45) = false := fun k => by
                            rw [n4 k, beq_eq_false_iff_ne]
                            exact fun e => ln (hc.1 (UInt8.toNat_inj.1 (by have e2 : c.toNat = 45 := Int.ofNat.inj e
                                                                           simpa using e2)))
                          clear n4 hs hl hc ln TX
                          go_wp2_with (go_at_call 35; refine (num2_any _ _).mono ?_; rintro e w' ⟨rfl, rfl⟩)
                          go_roundw
                          case rel => exact ⟨k + 1, by omega, by omega, by go_num, (by repeat (first | with_reducible exact Ext.refl _ | with_reducible apply Ext.drew | with_reducible apply Ext.drewN | with_reducible apply Ext.alloc | ((with_reducible refine Ext.setCell ?_ ?_ _); rotate_left; focus (first | (simp; done) | (simp; omega) | omega)) | with_reducible refine Ext.tr ?_ x1 | with_reducible refine Ext.tr ?_ x2 | with_reducible refine Ext.tr ?_ x3 | with_reducible refine Ext.tr ?_ x4 | with_reducible refine Ext.tr ?_ x5 | with_reducible refine Ext.tr ?_ hx | with_reducible refine Ext.tr ?_ hext | with_reducible assumption))⟩
                          case measure => simp [intOf]; omega
                    · as_aux_lemma =>
                        have eh : (h == 0) = true := by simp [qg.1]
                        have ej : (j == 0) = false := by simp [qg.2]
                        clear qg hd
                        go_wp2_with (go_at_call 35; refine (num2_any _ _).mono ?_; rintro e w' ⟨rfl, rfl⟩)
                        refine (TX.out _).mono ?_; rintro e v5 ⟨c, s, t, rfl, x5, hs, hl, hc⟩; obtain ⟨c5, f5⟩ := x5.rules; have z5 := x5.size
                        obtain ⟨n1, n2, n3, n4⟩ := str_facts hs
                        by_cases ln : A < 0
                        · have dl : decide (A < 0) = true := by simp; omega
                          have n5 : ∀ k : 0 < s.size, (((s[0]'k).toNat : Int) == 45) = true := fun k => by rw [n4 k, hc.2 ln]; decide
                          clear n4 hs hl hc ln TX
                          go_wp2_with (go_at_call 35; refine (num2_any _ _).mono ?_; rintro e w' ⟨rfl, rfl⟩)
                          go_roundw
                          case rel => exact ⟨k + 1, by omega, by omega, by go_num, (by repeat (first | with_reducible exact Ext.refl _ | with_reducible apply Ext.drew | with_reducible apply Ext.drewN | with_reducible apply Ext.alloc | ((with_reducible refine Ext.setCell ?_ ?_ _); rotate_left; focus (first | (simp; done) | (simp; omega) | omega)) | with_reducible refine Ext.tr ?_ x1 | with_reducible refine Ext.tr ?_ x2 | with_reducible refine Ext.tr ?_ x3 | with_reducible refine Ext.tr ?_ x4 | with_reducible refine Ext.tr ?_ x5 | with_reducible refine Ext.tr ?_ hx | with_reducible refine Ext.tr ?_ hext | with_reducible assumption))⟩
                          case measure => simp [intOf]; omega
                        · have dl : decide (A < 0) = false := by simp; omega
                          have n5 : ∀ k : 0 < s.size, (((s[0]'k).toNat : Int) == 45) = false := fun k => by
                            rw [n4 k, beq_eq_false_iff_ne]
                            exact fun e => ln (hc.1 (UInt8.toNat_inj.1 (by have e2 : c.toNat = 45 := Int.ofNat.inj e
                                                                           simpa using e2)))
                          clear n4 hs hl hc ln TX
                          go_wp2_with (go_at_call 35; refine (num2_any _ _).mono ?_; rintro e w' ⟨rfl, rfl⟩)
                          go_roundw
                          case rel => exact ⟨k + 1, by omega, by omega, by go_num, (by repeat (first | with_reducible exact Ext.refl _ | with_reducible apply Ext.drew | with_reducible apply Ext.drewN | with_reducible apply Ext.alloc | ((with_reducible refine Ext.setCell ?_ ?_ _); rotate_left; focus (first | (simp; done) | (simp; omega) | omega)) | with_reducible refine Ext.tr ?_ x1 | with_reducible refine Ext.tr ?_ x2 | with_reducible refine Ext.tr ?_ x3 | with_reducible refine Ext.tr ?_ x4 | with_reducible refine Ext.tr ?_ x5 | with_reducible refine Ext.tr ?_ hx | with_reducible refine Ext.tr ?_ hext | with_reducible assumption))⟩
                          case measure => simp [intOf]; omega
                    · as_aux_lemma =>
                        have eh : (h == 0) = true := by simp [qx.1]
                        have ej : (j == 0) = true := by simp [qx.2]
                        have euv : decide (v < u) = false := by have := hd qx.1 qx.2; simp; omega
                        clear qx hd
                        go_wp2_with (go_at_call 35; refine (num2_any _ _).mono ?_; rintro e w' ⟨rfl, rfl⟩)
                        refine (TX.out _).mono ?_; rintro e v5 ⟨c, s, t, rfl, x5, hs, hl, hc⟩; obtain ⟨c5, f5⟩ := x5.rules; have z5 := x5.size
                        obtain ⟨n1, n2, n3, n4⟩ := str_facts hs
                        by_cases ln : A < 0
                        · have dl : decide (A < 0) = true := by simp; omega
                          have n5 : ∀ k : 0 < s.size, (((s[0]'k).toNat : Int) == 45) = true := fun k => by rw [n4 k, hc.2 ln]; decide
                          clear n4 hs hl hc ln TX
                          go_wp2_with (go_at_call 35; refine (num2_any _ _).mono ?_; rintro e w' ⟨rfl, rfl⟩)
                          go_roundw
                          case rel => exact ⟨k + 1, by omega, by omega, by go_num, (by repeat (first | with_reducible exact Ext.refl _ | with_reducible apply Ext.drew | with_reducible apply Ext.drewN | with_reducible apply Ext.alloc | ((with_reducible refine Ext.setCell ?_ ?_ _); rotate_left; focus (first | (simp; done) | (simp; omega) | omega)) | with_reducible refine Ext.tr ?_ x1 | with_reducible refine Ext.tr ?_ x2 | with_reducible refine Ext.tr ?_ x3 | with_reducible refine Ext.tr ?_ x4 | with_reducible refine Ext.tr ?_ x5 | with_reducible refine Ext.tr ?_ hx | with_reducible refine Ext.tr ?_ hext | with_reducible assumption))⟩
                          case measure => simp [intOf]; omega
                        · have dl : decide (A < 0) = false := by simp; omega
                          have n5 : ∀ k : 0 < s.size, (((s[0]'k).toNat : Int) == 45) = false := fun k => by
                            rw [n4 k, beq_eq_false_iff_ne]
                            exact fun e => ln (hc.1 (UInt8.toNat_inj.1 (by have e2 : c.toNat = 45 := Int.ofNat.inj e
                                                                           simpa using e2)))
                          clear n4 hs hl hc ln TX
                          go_wp2_with (go_at_call 35; refine (num2_any _ _).mono ?_; rintro e w' ⟨rfl, rfl⟩)
                          go_roundw
                          case rel => exact ⟨k + 1, by omega, by omega, by go_num, (by repeat (first | with_reducible exact Ext.refl _ | with_reducible apply Ext.drew | with_reducible apply Ext.drewN | with_reducible apply Ext.alloc | ((with_reducible refine Ext.setCell ?_ ?_ _); rotate_left; focus (first | (simp; done) | (simp; omega) | omega)) | with_reducible refine Ext.tr ?_ x1 | with_reducible refine Ext.tr ?_ x2 | with_reducible refine Ext.tr ?_ x3 | with_reducible refine Ext.tr ?_ x4 | with_reducible refine Ext.tr ?_ x5 | with_reducible refine Ext.tr ?_ hx | with_reducible refine Ext.tr ?_ hext | with_reducible assumption))⟩
                          case measure => simp [intOf]; omega
                · as_aux_lemma =>
                    have ee : (e == 0) = true := by simp [px.1]
                    have eg : (g == 0) = true := by simp [px.2]
                    have exy : decide (y < x) = false := by have := hm px.1 px.2; simp; omega
                    clear px hm
                    rcases (by omega : h ≠ 0 ∨ (h = 0 ∧ j ≠ 0) ∨ (h = 0 ∧ j = 0)) with qe | qg | qx
                    · as_aux_lemma =>
                        have eh : (h == 0) = false := by simp [qe]
                        clear qe hd
                        go_wp2_with (go_at_call 35; refine (num2_any _ _).mono ?_; rintro e w' ⟨rfl, rfl⟩)
                        refine (TX.out _).mono ?_; rintro e v5 ⟨c, s, t, rfl, x5, hs, hl, hc⟩; obtain ⟨c5, f5⟩ := x5.rules; have z5 := x5.size
                        obtain ⟨n1, n2, n3, n4⟩ := str_facts hs
                        by_cases ln : A < 0
                        · have dl : decide (A < 0) = true := by simp; omega
                          have n5 : ∀ k : 0 < s.size, (((s[0]'k).toNat : Int) == 45) = true := fun k => by rw [n4 k, hc.2 ln]; decide
                          clear n4 hs hl hc ln TX
                          go_wp2_with (go_at_call 35; refine (num2_any _ _).mono ?_; rintro e w' ⟨rfl, rfl⟩)
                          go_roundw
                          case rel => exact ⟨k + 1, by omega, by omega, by go_num, (by repeat (first | with_reducible exact Ext.refl _ | with_reducible apply Ext.drew | with_reducible apply Ext.drewN | with_reducible apply Ext.alloc | ((with_reducible refine Ext.setCell ?_ ?_ _); rotate_left; focus (first | (simp; done) | (simp; omega) | omega)) | with_reducible refine Ext.tr ?_ x1 | with_reducible refine Ext.tr ?_ x2 | with_reducible refine Ext.tr ?_ x3 | with_reducible refine Ext.tr ?_ x4 | with_reducible refine Ext.tr ?_ x5 | with_reducible refine Ext.tr ?_ hx | with_reducible refine Ext.tr ?_ hext | with_reducible assumption))⟩
                          case measure => simp [intOf]; omega
                        · have dl : decide (A < 0) = false := by simp; omega
                          have n5 : ∀ k : 0 < s.size, (((s[0]'k).toNat : Int) == 45) = false := fun k => by
                            rw [n4 k, beq_eq_false_iff_ne]
                            exact fun e => ln (hc.1 (UInt8.toNat_inj.1 (by have e2 : c.toNat = 45 := Int.ofNat.inj e
                                                                           simpa using e2)))
                          clear n4 hs hl hc ln TX
                          go_wp2_with (go_at_call 35; refine (num2_any _ _).mono ?_; rintro e w' ⟨rfl, rfl⟩)
                          go_roundw
                          case rel => exact ⟨k + 1, by omega, by omega, by go_num, (by repeat (first | with_reducible exact Ext.refl _ | with_reducible apply Ext.drew | with_reducible apply Ext.drewN | with_reducible apply Ext.alloc | ((with_reducible refine Ext.setCell ?_ ?_ _); rotate_left; focus (first | (simp; done) | (simp; omega) | omega)) | with_reducible refine Ext.tr ?_ x1 | with_reducible refine Ext.tr ?_ x2 | with_reducible refine Ext.tr ?_ x3 | with_reducible refine Ext.tr ?_ x4 | with_reducible refine Ext.tr ?_ x5 | with_reducible refine Ext.tr ?_ hx | with_reducible refine Ext.tr ?_ hext | with_reducible assumption))⟩
                          case measure => simp [intOf]; omega
                    · as_aux_lemma =>
                        have eh : (h == 0) = true := by simp [qg.1]
                        have ej : (j == 0) = false := by simp [qg.2]
                        clear qg hd
                        go_wp2_with (go_at_call 35; refine (num2_any _ _).mono ?_; rintro e w' ⟨rfl, rfl⟩)
                        refine (TX.out _).mono ?_; rintro e v5 ⟨c, s, t, rfl, x5, hs, hl, hc⟩; obtain ⟨c5, f5⟩ := x5.rules; have z5 := x5.size
                        obtain ⟨n1, n2, n3, n4⟩ := str_facts hs
                        by_cases ln : A < 0
                        · have dl : decide (A < 0) = true := by simp; omega
                          have n5 : ∀ k : 0 < s.size, (((s[0]'k).toNat : Int) == 45) = true := fun k => by rw [n4 k, hc.2 ln]; decide
                          clear n4 hs hl hc ln TX
                          go_wp2_with (go_at_call 35; refine (num2_any _ _).mono ?_; rintro e w' ⟨rfl, rfl⟩)
                          go_roundw
                          case rel => exact ⟨k + 1, by omega, by omega, by go_num, (by repeat (first | with_reducible exact Ext.refl _ | with_reducible apply Ext.drew | with_reducible apply Ext.drewN | with_reducible apply Ext.alloc | ((with_reducible refine Ext.setCell ?_ ?_ _); rotate_left; focus (first | (simp; done) | (simp; omega) | omega)) | with_reducible refine Ext.tr ?_ x1 | with_reducible refine Ext.tr ?_ x2 | with_reducible refine Ext.tr ?_ x3 | with_reducible refine Ext.tr ?_ x4 | with_reducible refine Ext.tr ?_ x5 | with_reducible refine Ext.tr ?_ hx | with_reducible refine Ext.tr ?_ hext | with_reducible assumption))⟩
                          case measure => simp [intOf]; omega
                        · have dl : decide (A < 0) = false := by simp; omega
                          have n5 : ∀ k : 0 < s.size, (((s[0]'k).toNat : Int) == 45) = false := fun k => by
                            rw [n4 k, beq_eq_false_iff_ne]
                            exact fun e => ln (hc.1 (UInt8.toNat_inj.1 (by have e2 : c.toNat = 45 := Int.ofNat.inj e
                                                                           simpa using e2)))
                          clear n4 hs hl hc ln TX
                          go_wp2_with (go_at_call 35; refine (num2_any _ _).mono ?_; rintro e w' ⟨rfl, rfl⟩)
                          go_roundw
                          case rel => exact ⟨k + 1, by omega, by omega, by go_num, (by repeat (first | with_reducible exact Ext.refl _ | with_reducible apply Ext.drew | with_reducible apply Ext.drewN | with_reducible apply Ext.alloc | ((with_reducible refine Ext.setCell ?_ ?_ _); rotate_left; focus (first | (simp; done) | (simp; omega) | omega)) | with_reducible refine Ext.tr ?_ x1 | with_reducible refine Ext.tr ?_ x2 | with_reducible refine Ext.tr ?_ x3 | with_reducible refine Ext.tr ?_ x4 | with_reducible refine Ext.tr ?_ x5 | with_reducible refine Ext.tr ?_ hx | with_reducible refine Ext.tr ?_ hext | with_reducible assumption))⟩
                          case measure => simp [intOf]; omega
                    · as_aux_lemma =>
                        have eh : (h == 0) = true := by simp [qx.1]
                        have ej : (j == 0) = true := by simp [qx.2]
                        have euv : decide (v < u) = false := by have := hd qx.1 qx.2; simp; omega
                        clear qx hd
                        go_wp2_with (go_at_call 35; refine (num2_any _ _).mono ?_; rintro e w' ⟨rfl, rfl⟩)
                        refine (TX.out _).mono ?_; rintro e v5 ⟨c, s, t, rfl, x5, hs, hl, hc⟩; obtain ⟨c5, f5⟩ := x5.rules; have z5 := x5.size
                        obtain ⟨n1, n2, n3, n4⟩ := str_facts hs
                        by_cases ln : A < 0
                        · have dl : decide (A < 0) = true := by simp; omega
                          have n5 : ∀ k : 0 < s.size, (((s[0]'k).toNat : Int) == 45) = true := fun k => by rw [n4 k, hc.2 ln]; decide
                          clear n4 hs hl hc ln TX
                          go_wp2_with (go_at_call 35; refine (num2_any _ _).mono ?_; rintro e w' ⟨rfl, rfl⟩)
                          go_roundw
                          case rel => exact ⟨k + 1, by omega, by omega, by go_num, (by repeat (first | with_reducible exact Ext.refl _ | with_reducible apply Ext.drew | with_reducible apply Ext.drewN | with_reducible apply Ext.alloc | ((with_reducible refine Ext.setCell ?_ ?_ _); rotate_left; focus (first | (simp; done) | (simp; omega) | omega)) | with_reducible refine Ext.tr ?_ x1 | with_reducible refine Ext.tr ?_ x2 | with_reducible refine Ext.tr ?_ x3 | with_reducible refine Ext.tr ?_ x4 | with_reducible refine Ext.tr ?_ x5 | with_reducible refine Ext.tr ?_ hx | with_reducible refine Ext.tr ?_ hext | with_reducible assumption))⟩
                          case measure => simp [intOf]; omega
                        · have dl : decide (A < 0) = false := by simp; omega
                          have n5 : ∀ k : 0 < s.size, (((s[0]'k).toNat : Int) == 45) = false := fun k => by
                            rw [n4 k, beq_eq_false_iff_ne]
                            exact fun e => ln (hc.1 (UInt8.toNat_inj.1 (by have e2 : c.toNat = 45 := Int.ofNat.inj e
                                                                           simpa using e2)))
                          clear n4 hs hl hc ln TX
                          go_wp2_with (go_at_call 35; refine (num2_any _ _).mono ?_; rintro e w' ⟨rfl, rfl⟩)
                          go_roundw
                          case rel => exact ⟨k + 1, by omega, by omega, by go_num, (by repeat (first | with_reducible exact Ext.refl _ | with_reducible apply Ext.drew | with_reducible apply Ext.drewN | with_reducible apply Ext.alloc | ((with_reducible refine Ext.setCell ?_ ?_ _); rotate_left; focus (first | (simp; done) | (simp; omega) | omega)) | with_reducible refine Ext.tr ?_ x1 | with_reducible refine Ext.tr ?_ x2 | with_reducible refine Ext.tr ?_ x3 | with_reducible refine Ext.tr ?_ x4 | with_reducible refine Ext.tr ?_ x5 | with_reducible refine Ext.tr ?_ hx | with_reducible refine Ext.tr ?_ hext | with_reducible assumption))⟩
                          case measure => simp [intOf]; omega
              · have dab : decide (B < A) = true := by simp; omega
                have hab' : B ≤ A := by omega
                clear hab
                have hab := hab'
                clear hab'
                have wl : Wd B := gd_iff.1 gB
                have wh : Wd A := gd_iff.1 gA
                obtain ⟨x, e, y, g, u, h, v, j, hm, hd, C1, C2, C3, C4⟩ := order_some (lo := B) (hi := A) wl wh wC gf c0 hab
                have E1 := Lib.hid C1
                have E2 := Lib.hid C2
                have E3 := Lib.hid C3
                have E4 := Lib.hid C4
                have TX := Lib.hid (fun v => text_any B f v wl.g gf)
                clear C1 C2 C3 C4
                go_wp2_with fail; refine (F1.out _).mono ?_; rintro e w' ⟨rfl, rfl⟩
                go_wp2_with (go_at_call 37; refine (may2_any _ _).mono ?_; rintro e w' ⟨rfl, rfl⟩)
                refine (E1.out _).mono ?_; rintro e v1 ⟨rfl, x1⟩; obtain ⟨c1, f1⟩ := x1.rules; have z1 := x1.size
                go_wp2_with fail; refine (E2.out _).mono ?_; rintro e v2 ⟨rfl, x2⟩; obtain ⟨c2, f2⟩ := x2.rules; have z2 := x2.size
                go_wp2_with fail; refine (E3.out _).mono ?_; rintro e v3 ⟨rfl, x3⟩; obtain ⟨c3, f3⟩ := x3.rules; have z3 := x3.size
                go_wp2_with fail; refine (E4.out _).mono ?_; rintro e v4 ⟨rfl, x4⟩; obtain ⟨c4, f4⟩ := x4.rules; have z4 := x4.size
                clear E1 E2 E3 E4 F1 hA hB hC hF wl wh wC gA gB gC hab
                rcases (by omega : e ≠ 0 ∨ (e = 0 ∧ g ≠ 0) ∨ (e = 0 ∧ g = 0)) with pe | pg | px
                · as_aux_lemma =>
                    have ee : (e == 0) = false := by simp [pe]
                    clear pe hm
                    rcases (by omega : h ≠ 0 ∨ (h = 0 ∧ j ≠ 0) ∨ (h = 0 ∧ j = 0)) with qe | qg | qx
                    · as_aux_lemma =>
                        have eh : (h == 0) = false := by simp [qe]
                        clear qe hd
                        go_wp2_with (go_at_call 35; refine (num2_any _ _).mono ?_; rintro e w' ⟨rfl, rfl⟩)
                        refine (TX.out _).mono ?_; rintro e v5 ⟨c, s, t, rfl, x5, hs, hl, hc⟩; obtain ⟨c5, f5⟩ := x5.rules; have z5 := x5.size
                        obtain ⟨n1, n2, n3, n4⟩ := str_facts hs
                        by_cases ln : B < 0
                        · have dl : decide (B < 0) = true := by simp; omega
                          have n5 : ∀ k : 0 < s.size, (((s[0]'k).toNat : Int) == 45) = true := fun k => by rw [n4 k, hc.2 ln]; decide
                          clear n4 hs hl hc ln TX
                          go_wp2_with (go_at_call 35; refine (num2_any _ _).mono ?_; rintro e w' ⟨rfl, rfl⟩)
                          go_roundw
                          case rel => exact ⟨k + 1, by omega, by omega, by go_num, (by repeat (first | with_reducible exact Ext.refl _ | with_reducible apply Ext.drew | with_reducible apply Ext.drewN | with_reducible apply Ext.alloc | ((with_reducible refine Ext.setCell ?_ ?_ _); rotate_left; focus (first | (simp; done) | (simp; omega) | omega)) | with_reducible refine Ext.tr ?_ x1 | with_reducible refine Ext.tr ?_ x2 | with_reducible refine Ext.tr ?_ x3 | with_reducible refine Ext.tr ?_ x4 | with_reducible refine Ext.tr ?_ x5 | with_reducible refine Ext.tr ?_ hx | with_reducible refine Ext.tr ?_ hext | with_reducible assumption))⟩
                          case measure => simp [intOf]; omega
                        · have dl : decide (B < 0) = false := by simp; omega
                          have n5 : ∀ k : 0 < s.size, (((s[0]'k).toNat : Int) == 45) = false := fun k => by
                            rw [n4 k, beq_eq_false_iff_ne]
                            exact fun e => ln (hc.1 (UInt8.toNat_inj.1 (by have e2 : c.toNat = 45 := Int.ofNat.inj e
                                                                           simpa using e2)))
                          clear n4 hs hl hc ln TX
                          go_wp2_with (go_at_call 35; refine (num2_any _ _).mono ?_; rintro e w' ⟨rfl, rfl⟩)
                          go_roundw
                          case rel => exact ⟨k + 1, by omega, by omega, by go_num, (by repeat (first | with_reducible exact Ext.refl _ | with_reducible apply Ext.drew | with_reducible apply Ext.drewN | with_reducible apply Ext.alloc | ((with_reducible refine Ext.setCell ?_ ?_ _); rotate_left; focus (first | (simp; done) | (simp; omega) | omega)) | with_reducible refine Ext.tr ?_ x1 | with_reducible refine Ext.tr ?_ x2 | with_reducible refine Ext.tr ?_ x3 | with_reducible refine Ext.tr ?_ x4 | with_reducible refine Ext.tr ?_ x5 | with_reducible refine Ext.tr ?_ hx | with_reducible refine Ext.tr ?_ hext | with_reducible assumption))⟩
                          case measure => simp [intOf]; omega
                    · as_aux_lemma =>
                        have eh : (h == 0) = true := by simp [qg.1]
                        have ej : (j == 0) = false := by simp [qg.2]
                        clear qg hd
                        go_wp2_with (go_at_call 35; refine (num2_any _ _).mono ?_; rintro e w' ⟨rfl, rfl⟩)
                        refine (TX.out _).mono ?_; rintro e v5 ⟨c, s, t, rfl, x5, hs, hl, hc⟩; obtain ⟨c5, f5⟩ := x5.rules; have z5 := x5.size
                        obtain ⟨n1, n2, n3, n4⟩ := str_facts hs
                        by_cases ln : B < 0
                        · have dl : decide (B < 0) = true := by simp; omega
                          have n5 : ∀ k : 0 < s.size, (((s[0]'k).toNat : Int) == 45) = true := fun k => by rw [n4 k, hc.2 ln]; decide
                          clear n4 hs hl hc ln TX
                          go_wp2_with (go_at_call 35; refine (num2_any _ _).mono ?_; rintro e w' ⟨rfl, rfl⟩)
                          go_roundw
                          case rel => exact ⟨k + 1, by omega, by omega, by go_num, (by repeat (first | with_reducible exact Ext.refl _ | with_reducible apply Ext.drew | with_reducible apply Ext.drewN | with_reducible apply Ext.alloc | ((with_reducible refine Ext.setCell ?_ ?_ _); rotate_left; focus (first | (simp; done) | (simp; omega) | omega)) | with_reducible refine Ext.tr ?_ x1 | with_reducible refine Ext.tr ?_ x2 | with_reducible refine Ext.tr ?_ x3 | with_reducible refine Ext.tr ?_ x4 | with_reducible refine Ext.tr ?_ x5 | with_reducible refine Ext.tr ?_ hx | with_reducible refine Ext.tr ?_ hext | with_reducible assumption))⟩
                          case measure => simp [intOf]; omega
                        · have dl : decide (B < 0) = false := by simp; omega
                          have n5 : ∀ k : 0 < s.size, (((s[0]'k).toNat : Int) == 45) = false := fun k => by
                            rw [n4 k, beq_eq_false_iff_ne]
                            exact fun e => ln (hc.1 (UInt8.toNat_inj.1 (by have e2 : c.toNat = 45 := Int.ofNat.inj e
                                                                           simpa using e2)))
                          clear n4 hs hl hc ln TX
                          go_wp2_with (go_at_call 35; refine (num2_any _ _).mono ?_; rintro e w' ⟨rfl, rfl⟩)
                          go_roundw
                          case rel => exact ⟨k + 1, by omega, by omega, by go_num, (by repeat (first | with_reducible exact Ext.refl _ | with_reducible apply Ext.drew | with_reducible apply Ext.drewN | with_reducible apply Ext.alloc | ((with_reducible refine Ext.setCell ?_ ?_ _); rotate_left; focus (first | (simp; done) | (simp; omega) | omega)) | with_reducible refine Ext.tr ?_ x1 | with_reducible refine Ext.tr ?_ x2 | with_reducible refine Ext.tr ?_ x3 | with_reducible refine Ext.tr ?_ x4 | with_reducible refine Ext.tr ?_ x5 | with_reducible refine Ext.tr ?_ hx | with_reducible refine Ext.tr ?_ hext | with_reducible assumption))⟩
                          case measure => simp [intOf]; omega
                    · as_aux_lemma =>
                        have eh : (h == 0) = true := by simp [qx.1]
                        have ej : (j == 0) = true := by simp [qx.2]
                        have euv : decide (v < u) = false := by have := hd qx.1 qx.2; simp; omega
                        clear qx hd
                        go_wp2_with (go_at_call 35; refine (num2_any _ _).mono ?_; rintro e w' ⟨rfl, rfl⟩)
                        refine (TX.out _).mono ?_; rintro e v5 ⟨c, s, t, rfl, x5, hs, hl, hc⟩; obtain ⟨c5, f5⟩ := x5.rules; have z5 := x5.size
                        obtain ⟨n1, n2, n3, n4⟩ := str_facts hs
                        by_cases ln : B < 0
                        · have dl : decide (B < 0) = true := by simp; omega
                          have n5 : ∀ k : 0 < s.size, (((s[0]'k).toNat : Int) == 45) = true := fun k => by rw [n4 k, hc.2 ln]; decide
                          clear n4 hs hl hc ln TX
                          go_wp2_with (go_at_call 35; refine (num2_any _ _).mono ?_; rintro e w' ⟨rfl, rfl⟩)
                          go_roundw
                          case rel => exact ⟨k + 1, by omega, by omega, by go_num, (by repeat (first | with_reducible exact Ext.refl _ | with_reducible apply Ext.drew | with_reducible apply Ext.drewN | with_reducible apply Ext.alloc | ((with_reducible refine Ext.setCell ?_ ?_ _); rotate_left; focus (first | (simp; done) | (simp; omega) | omega)) | with_reducible refine Ext.tr ?_ x1 | with_reducible refine Ext.tr ?_ x2 | with_reducible refine Ext.tr ?_ x3 | with_reducible refine Ext.tr ?_ x4 | with_reducible refine Ext.tr ?_ x5 | with_reducible refine Ext.tr ?_ hx | with_reducible refine Ext.tr ?_ hext | with_reducible assumption))⟩
                          case measure => simp [intOf]; omega
                        · have dl : decide (B < 0) = false := by simp; omega
                          have n5 : ∀ k : 0 < s.size, (((s[0]'k).toNat : Int) == 45) = false := fun k => by
                            rw [n4 k, beq_eq_false_iff_ne]
                            exact fun e => ln (hc.1 (UInt8.toNat_inj.1 (by have e2 : c.toNat = 45 := Int.ofNat.inj e
                                                                           simpa using e2)))
                          clear n4 hs hl hc ln TX
                          go_wp2_with (go_at_call 35; refine (num2_any _ _).mono ?_; rintro e w' ⟨rfl, rfl⟩)
                          go_roundw
                          case rel => exact ⟨k + 1, by omega, by omega, by go_num, (by repeat (first | with_reducible exact Ext.refl _ | with_reducible apply Ext.drew | with_reducible apply Ext.drewN | with_reducible apply Ext.alloc | ((with_reducible refine Ext.setCell ?_ ?_ _); rotate_left; focus (first | (simp; done) | (simp; omega) | omega)) | with_reducible refine Ext.tr ?_ x1 | with_reducible refine Ext.tr ?_ x2 | with_reducible refine Ext.tr ?_ x3 | with_reducible refine Ext.tr ?_ x4 | with_reducible refine Ext.tr ?_ x5 | with_reducible refine Ext.tr ?_ hx | with_reducible refine Ext.tr ?_ hext | with_reducible assumption))⟩
                          case measure => simp [intOf]; omega
                · as_aux_lemma =>
                    have ee : (e == 0) = true := by simp [pg.1]
                    have eg : (g == 0) = false := by simp [pg.2]
                    clear pg hm
                    rcases (by omega : h ≠ 0 ∨ (h = 0 ∧ j ≠ 0) ∨ (h = 0 ∧ j = 0)) with qe | qg | qx
                    · as_aux_lemma =>
                        have eh : (h == 0) = false := by simp [qe]
                        clear qe hd
                        go_wp2_with (go_at_call 35; refine (num2_any _ _).mono ?_; rintro e w' ⟨rfl, rfl⟩)
                        refine (TX.out _).mono ?_; rintro e v5 ⟨c, s, t, rfl, x5, hs, hl, hc⟩; obtain ⟨c5, f5⟩ := x5.rules; have z5 := x5.size
                        obtain ⟨n1, n2, n3, n4⟩ := str_facts hs
                        by_cases ln : B < 0
                        · have dl : decide (B < 0) = true := by simp; omega
                          have n5 : ∀ k : 0 < s.size, (((s[0]'k).toNat : Int) == 45) = true := fun k => by rw [n4 k, hc.2 ln]; decide
                          clear n4 hs hl hc ln TX
                          go_wp2_with (go_at_call 35; refine (num2_any _ _).mono ?_; rintro e w' ⟨rfl, rfl⟩)
                          go_roundw
                          case rel => exact ⟨k + 1, by omega, by omega, by go_num, (by repeat (first | with_reducible exact Ext.refl _ | with_reducible apply Ext.drew | with_reducible apply Ext.drewN | with_reducible apply Ext.alloc | ((with_reducible refine Ext.setCell ?_ ?_ _); rotate_left; focus (first | (simp; done) | (simp; omega) | omega)) | with_reducible refine Ext.tr ?_ x1 | with_reducible refine Ext.tr ?_ x2 | with_reducible refine Ext.tr ?_ x3 | with_reducible refine Ext.tr ?_ x4 | with_reducible refine Ext.tr ?_ x5 | with_reducible refine Ext.tr ?_ hx | with_reducible refine Ext.tr ?_ hext | with_reducible assumption))⟩
                          case measure => simp [intOf]; omega
                        · have dl : decide (B < 0) = false := by simp; omega
                          have n5 : ∀ k : 0 < s.size, (((s[0]'k).toNat : Int) == 45) = false := fun k => by
                            rw [n4 k, beq_eq_false_iff_ne]
                            exact fun e => ln (hc.1 (UInt8.toNat_inj.1 (by have e2 : c.toNat = 45 := Int.ofNat.inj e
                                                                           simpa using e2)))
                          clear n4 hs hl hc ln TX
                          go_wp2_with (go_at_call 35; refine (num2_any _ _).mono ?_; rintro e w' ⟨rfl, rfl⟩)
                          go_roundw
                          case rel => exact ⟨k + 1, by omega, by omega, by go_num, (by repeat (first | with_reducible exact Ext.refl _ | with_reducible apply Ext.drew | with_reducible apply Ext.drewN | with_reducible apply Ext.alloc | ((with_reducible refine Ext.setCell ?_ ?_ _); rotate_left; focus (first | (simp; done) | (simp; omega) | omega)) | with_reducible refine Ext.tr ?_ x1 | with_reducible refine Ext.tr ?_ x2 | with_reducible refine Ext.tr ?_ x3 | with_reducible refine Ext.tr ?_ x4 | with_reducible refine Ext.tr ?_ x5 | with_reducible refine Ext.tr ?_ hx | with_reducible refine Ext.tr ?_ hext | with_reducible assumption))⟩
                          case measure => simp [intOf]; omega
                    · as_aux_lemma =>
                        have eh : (h == 0) = true := by simp [qg.1]
                        have ej : (j == 0) = false := by simp [qg.2]
                        clear qg hd
                        go_wp2_with (go_at_call 35; refine (num2_any _ _).mono ?_; rintro e w' ⟨rfl, rfl⟩)
                        refine (TX.out _).mono ?_; rintro e v5 ⟨c, s, t, rfl, x5, hs, hl, hc⟩; obtain ⟨c5, f5⟩ := x5.rules; have z5 := x5.size
                        obtain ⟨n1, n2, n3, n4⟩ := str_facts hs
                        by_cases ln : B < 0
                        · have dl : decide (B < 0) = true := by simp; omega
                          have n5 : ∀ k : 0 < s.size, (((s[0]'k).toNat : Int) == 45) = true := fun k => by rw [n4 k, hc.2 ln]; decide
                          clear n4 hs hl hc ln TX
                          go_wp2_with (go_at_call 35; refine (num2_any _ _).mono ?_; rintro e w' ⟨rfl, rfl⟩)
                          go_roundw
                          case rel => exact ⟨k + 1, by omega, by omega, by go_num, (by repeat (first | with_reducible exact Ext.refl _ | with_reducible apply Ext.drew | with_reducible apply Ext.drewN | with_reducible apply Ext.alloc | ((with_reducible refine Ext.setCell ?_ ?_ _); rotate_left; focus (first | (simp; done) | (simp; omega) | omega)) | with_reducible refine Ext.tr ?_ x1 | with_reducible refine Ext.tr ?_ x2 | with_reducible refine Ext.tr ?_ x3 | with_reducible refine Ext.tr ?_ x4 | with_reducible refine Ext.tr ?_ x5 | with_reducible refine Ext.tr ?_ hx | with_reducible refine Ext.tr ?_ hext | with_reducible assumption))⟩
                          case measure => simp [intOf]; omega
                        · have dl : decide (B < 0) = false := by simp; omega
                          have n5 : ∀ k : 0 < s.size, (((s[0]'k).toNat : Int) == 45) = false := fun k => by
                            rw [n4 k, beq_eq_false_iff_ne]
                            exact fun e => ln (hc.1 (UInt8.toNat_inj.1 (by have e2 : c.toNat = 45 := Int.ofNat.inj e
                                                                           simpa using e2)))
                          clear n4 hs hl hc ln TX
                          go_wp2_with (go_at_call 35; refine (num2_any _ _).mono ?_; rintro e w' ⟨rfl, rfl⟩)
                          go_roundw
                          case rel => exact ⟨k + 1, by omega, by omega, by go_num, (by repeat (first | with_reducible exact Ext.refl _ | with_reducible apply Ext.drew | with_reducible apply Ext.drewN | with_reducible apply Ext.alloc | ((with_reducible refine Ext.setCell ?_ ?_ _); rotate_left; focus (first | (simp; done) | (simp; omega) | omega)) | with_reducible refine Ext.tr ?_ x1 | with_reducible refine Ext.tr ?_ x2 | with_reducible refine Ext.tr ?_ x3 | with_reducible refine Ext.tr ?_ x4 | with_reducible refine Ext.tr ?_ x5 | with_reducible refine Ext.tr ?_ hx | with_reducible refine Ext.tr ?_ hext | with_reducible assumption))⟩
                          case measure => simp [intOf]; omega
                    · as_aux_lemma =>
                        have eh : (h == 0) = true := by simp [qx.1]
                        have ej : (j == 0) = true := by simp [qx.2]
                        have euv : decide (v < u) = false := by have := hd qx.1 qx.2; simp; omega
                        clear qx hd
                        go_wp2_with (go_at_call 35; refine (num2_any _ _).mono ?_; rintro e w' ⟨rfl, rfl⟩)
                        refine (TX.out _).mono ?_; rintro e v5 ⟨c, s, t, rfl, x5, hs, hl, hc⟩; obtain ⟨c5, f5⟩ := x5.rules; have z5 := x5.size
                        obtain ⟨n1, n2, n3, n4⟩ := str_facts hs
                        by_cases ln : B < 0
                        · have dl : decide (B < 0) = true := by simp; omega
                          have n5 : ∀ k : 0 < s.size, (((s[0]'k).toNat : Int) == 45) = true := fun k => by rw [n4 k, hc.2 ln]; decide
                          clear n4 hs hl hc ln TX
                          go_wp2_with (go_at_call 35; refine (num2_any _ _).mono ?_; rintro e w' ⟨rfl, rfl⟩)
                          go_roundw
                          case rel => exact ⟨k + 1, by omega, by omega, by go_num, (by repeat (first | with_reducible exact Ext.refl _ | with_reducible apply Ext.drew | with_reducible apply Ext.drewN | with_reducible apply Ext.alloc | ((with_reducible refine Ext.setCell ?_ ?_ _); rotate_left; focus (first | (simp; done) | (simp; omega) | omega)) | with_reducible refine Ext.tr ?_ x1 | with_reducible refine Ext.tr ?_ x2 | with_reducible refine Ext.tr ?_ x3 | with_reducible refine Ext.tr ?_ x4 | with_reducible refine Ext.tr ?_ x5 | with_reducible refine Ext.tr ?_ hx | with_reducible refine Ext.tr ?_ hext | with_reducible assumption))⟩
                          case measure => simp [intOf]; omega
                        · have dl : decide (B < 0) = false := by simp; omega
                          have n5 : ∀ k : 0 < s.size, (((s[0]'k).toNat : Int) == 45) = false := fun k => by
                            rw [n4 k, beq_eq_false_iff_ne]
                            exact fun e => ln (hc.1 (UInt8.toNat_inj.1 (by have e2 : c.toNat = 45 := Int.ofNat.inj e
                                                                           simpa using e2)))
                          clear n4 hs hl hc ln TX
                          go_wp2_with (go_at_call 35; refine (num2_any _ _).mono ?_; rintro e w' ⟨rfl, rfl⟩)
                          go_roundw
                          case rel => exact ⟨k + 1, by omega, by omega, by go_num, (by repeat (first | with_reducible exact Ext.refl _ | with_reducible apply Ext.drew | with_reducible apply Ext.drewN | with_reducible apply Ext.alloc | ((with_reducible refine Ext.setCell ?_ ?_ _); rotate_left; focus (first | (simp; done) | (simp; omega) | omega)) | with_reducible refine Ext.tr ?_ x1 | with_reducible refine Ext.tr ?_ x2 | with_reducible refine Ext.tr ?_ x3 | with_reducible refine Ext.tr ?_ x4 | with_reducible refine Ext.tr ?_ x5 | with_reducible refine Ext.tr ?_ hx | with_reducible refine Ext.tr ?_ hext | with_reducible assumption))⟩
                          case measure => simp [intOf]; omega
                · as_aux_lemma =>
                    have ee : (e == 0) = true := by simp [px.1]
                    have eg : (g == 0) = true := by simp [px.2]
                    have exy : decide (y < x) = false := by have := hm px.1 px.2; simp; omega
                    clear px hm
                    rcases (by omega : h ≠ 0 ∨ (h = 0 ∧ j ≠ 0) ∨ (h = 0 ∧ j = 0)) with qe | qg | qx
                    · as_aux_lemma =>
                        have eh : (h == 0) = false := by simp [qe]
                        clear qe hd
                        go_wp2_with (go_at_call 35; refine (num2_any _ _).mono ?_; rintro e w' ⟨rfl, rfl⟩)
                        refine (TX.out _).mono ?_; rintro e v5 ⟨c, s, t, rfl, x5, hs, hl, hc⟩; obtain ⟨c5, f5⟩ := x5.rules; have z5 := x5.size
                        obtain ⟨n1, n2, n3, n4⟩ := str_facts hs
                        by_cases ln : B < 0
                        · have dl : decide (B < 0) = true := by simp; omega
                          have n5 : ∀ k : 0 < s.size, (((s[0]'k).toNat : Int) == 45) = true := fun k => by rw [n4 k, hc.2 ln]; decide
                          clear n4 hs hl hc ln TX
                          go_wp2_with (go_at_call 35; refine (num2_any _ _).mono ?_; rintro e w' ⟨rfl, rfl⟩)
                          go_roundw
                          case rel => exact ⟨k + 1, by omega, by omega, by go_num, (by repeat (first | with_reducible exact Ext.refl _ | with_reducible apply Ext.drew | with_reducible apply Ext.drewN | with_reducible apply Ext.alloc | ((with_reducible refine Ext.setCell ?_ ?_ _); rotate_left; focus (first | (simp; done) | (simp; omega) | omega)) | with_reducible refine Ext.tr ?_ x1 | with_reducible refine Ext.tr ?_ x2 | with_reducible refine Ext.tr ?_ x3 | with_reducible refine Ext.tr ?_ x4 | with_reducible refine Ext.tr ?_ x5 | with_reducible refine Ext.tr ?_ hx | with_reducible refine Ext.tr ?_ hext | with_reducible assumption))⟩
                          case measure => simp [intOf]; omega
                        · have dl : decide (B < 0) = false := by simp; omega
                          have n5 : ∀ k : 0 < s.size, (((s[0]'k).toNat : Int) == 45) = false := fun k => by
                            rw [n4 k, beq_eq_false_iff_ne]
                            exact fun e => ln (hc.1 (UInt8.toNat_inj.1 (by have e2 : c.toNat = 45 := Int.ofNat.inj e
                                                                           simpa using e2)))
                          clear n4 hs hl hc ln TX
                          go_wp2_with (go_at_call 35; refine (num2_any _ _).mono ?_; rintro e w' ⟨rfl, rfl⟩)
                          go_roundw
                          case rel => exact ⟨k + 1, by omega, by omega, by go_num, (by repeat (first | with_reducible exact Ext.refl _ | with_reducible apply Ext.drew | with_reducible apply Ext.drewN | with_reducible apply Ext.alloc | ((with_reducible refine Ext.setCell ?_ ?_ _); rotate_left; focus (first | (simp; done) | (simp; omega) | omega)) | with_reducible refine Ext.tr ?_ x1 | with_reducible refine Ext.tr ?_ x2 | with_reducible refine Ext.tr ?_ x3 | with_reducible refine Ext.tr ?_ x4 | with_reducible refine Ext.tr ?_ x5 | with_reducible refine Ext.tr ?_ hx | with_reducible refine Ext.tr ?_ hext | with_reducible assumption))⟩
                          case measure => simp [intOf]; omega
                    · as_aux_lemma =>
                        have eh : (h == 0) = true := by simp [qg.1]
                        have ej : (j == 0) = false := by simp [qg.2]
                        clear qg hd
                        go_wp2_with (go_at_call 35; refine (num2_any _ _).mono ?_; rintro e w' ⟨rfl, rfl⟩)
                        refine (TX.out _).mono ?_; rintro e v5 ⟨c, s, t, rfl, x5, hs, hl, hc⟩; obtain ⟨c5, f5⟩ := x5.rules; have z5 := x5.size
                        obtain ⟨n1, n2, n3, n4⟩ := str_facts hs
                        by_cases ln : B < 0
                        · have dl : decide (B < 0) = true := by simp; omega
                          have n5 : ∀ k : 0 < s.size, (((s[0]'k).toNat : Int) == 45) = true := fun k => by rw [n4 k, hc.2 ln]; decide
                          clear n4 hs hl hc ln TX
                          go_wp2_with (go_at_call 35; refine (num2_any _ _).mono ?_; rintro e w' ⟨rfl, rfl⟩)
                          go_roundw
                          case rel => exact ⟨k + 1, by omega, by omega, by go_num, (by repeat (first | with_reducible exact Ext.refl _ | with_reducible apply Ext.drew | with_reducible apply Ext.drewN | with_reducible apply Ext.alloc | ((with_reducible refine Ext.setCell ?_ ?_ _); rotate_left; focus (first | (simp; done) | (simp; omega) | omega)) | with_reducible refine Ext.tr ?_ x1 | with_reducible refine Ext.tr ?_ x2 | with_reducible refine Ext.tr ?_ x3 | with_reducible refine Ext.tr ?_ x4 | with_reducible refine Ext.tr ?_ x5 | with_reducible refine Ext.tr ?_ hx | with_reducible refine Ext.tr ?_ hext | with_reducible assumption))⟩
                          case measure => simp [intOf]; omega
                        · have dl : decide (B < 0) = false := by simp; omega
                          have n5 : ∀ k : 0 < s.size, (((s[0]'k).toNat : Int) == 45) = false := fun k => by
                            rw [n4 k, beq_eq_false_iff_ne]
                            exact fun e => ln (hc.1 (UInt8.toNat_inj.1 (by have e2 : c.toNat = 45 := Int.ofNat.inj e
                                                                           simpa using e2)))
                          clear n4 hs hl hc ln TX
                          go_wp2_with (go_at_call 35; refine (num2_any _ _).mono ?_; rintro e w' ⟨rfl, rfl⟩)
                          go_roundw
                          case rel => exact ⟨k + 1, by omega, by omega, by go_num, (by repeat (first | with_reducible exact Ext.refl _ | with_reducible apply Ext.drew | with_reducible apply Ext.drewN | with_reducible apply Ext.alloc | ((with_reducible refine Ext.setCell ?_ ?_ _); rotate_left; focus (first | (simp; done) | (simp; omega) | omega)) | with_reducible refine Ext.tr ?_ x1 | with_reducible refine Ext.tr ?_ x2 | with_reducible refine Ext.tr ?_ x3 | with_reducible refine Ext.tr ?_ x4 | with_reducible refine Ext.tr ?_ x5 | with_reducible refine Ext.tr ?_ hx | with_reducible refine Ext.tr ?_ hext | with_reducible assumption))⟩
                          case measure => simp [intOf]; omega
                    · as_aux_lemma =>
                        have eh : (h == 0) = true := by simp [qx.1]
                        have ej : (j == 0) = true := by simp [qx.2]
                        have euv : decide (v < u) = false := by have := hd qx.1 qx.2; simp; omega
                        clear qx hd
                        go_wp2_with (go_at_call 35; refine (num2_any _ _).mono ?_; rintro e w' ⟨rfl, rfl⟩)
                        refine (TX.out _).mono ?_; rintro e v5 ⟨c, s, t, rfl, x5, hs, hl, hc⟩; obtain ⟨c5, f5⟩ := x5.rules; have z5 := x5.size
                        obtain ⟨n1, n2, n3, n4⟩ := str_facts hs
                        by_cases ln : B < 0
                        · have dl : decide (B < 0) = true := by simp; omega
                          have n5 : ∀ k : 0 < s.size, (((s[0]'k).toNat : Int) == 45) = true := fun k => by rw [n4 k, hc.2 ln]; decide
                          clear n4 hs hl hc ln TX
                          go_wp2_with (go_at_call 35; refine (num2_any _ _).mono ?_; rintro e w' ⟨rfl, rfl⟩)
                          go_roundw
                          case rel => exact ⟨k + 1, by omega, by omega, by go_num, (by repeat (first | with_reducible exact Ext.refl _ | with_reducible apply Ext.drew | with_reducible apply Ext.drewN | with_reducible apply Ext.alloc | ((with_reducible refine Ext.setCell ?_ ?_ _); rotate_left; focus (first | (simp; done) | (simp; omega) | omega)) | with_reducible refine Ext.tr ?_ x1 | with_reducible refine Ext.tr ?_ x2 | with_reducible refine Ext.tr ?_ x3 | with_reducible refine Ext.tr ?_ x4 | with_reducible refine Ext.tr ?_ x5 | with_reducible refine Ext.tr ?_ hx | with_reducible refine Ext.tr ?_ hext | with_reducible assumption))⟩
                          case measure => simp [intOf]; omega
                        · have dl : decide (B < 0) = false := by simp; omega
                          have n5 : ∀ k : 0 < s.size, (((s[0]'k).toNat : Int) == 45) = false := fun k => by
                            rw [n4 k, beq_eq_false_iff_ne]
                            exact fun e => ln (hc.1 (UInt8.toNat_inj.1 (by have e2 : c.toNat = 45 := Int.ofNat.inj e
                                                                           simpa using e2)))
                          clear n4 hs hl hc ln TX
                          go_wp2_with (go_at_call 35; refine (num2_any _ _).mono ?_; rintro e w' ⟨rfl, rfl⟩)
                          go_roundw
                          case rel => exact ⟨k + 1, by omega, by omega, by go_num, (by repeat (first | with_reducible exact Ext.refl _ | with_reducible apply Ext.drew | with_reducible apply Ext.drewN | with_reducible apply Ext.alloc | ((with_reducible refine Ext.setCell ?_ ?_ _); rotate_left; focus (first | (simp; done) | (simp; omega) | omega)) | with_reducible refine Ext.tr ?_ x1 | with_reducible refine Ext.tr ?_ x2 | with_reducible refine Ext.tr ?_ x3 | with_reducible refine Ext.tr ?_ x4 | with_reducible refine Ext.tr ?_ x5 | with_reducible refine Ext.tr ?_ hx | with_reducible refine Ext.tr ?_ hext | with_reducible assumption))⟩
                          case measure => simp [intOf]; omega
            · have lc : decide (C ≤ 0) = true := by simp; omega
              go_wp2_with fail; refine (F1.out _).mono ?_; rintro e w' ⟨rfl, rfl⟩
              go_wp2_with (go_at_call 37; refine (may2_any _ _).mono ?_; rintro e w' ⟨rfl, rfl⟩)
              go_roundw
              case rel => exact ⟨k + 1, by omega, by omega, by go_num, (by repeat (first | with_reducible exact Ext.refl _ | with_reducible apply Ext.drew | with_reducible apply Ext.drewN | with_reducible apply Ext.alloc | ((with_reducible refine Ext.setCell ?_ ?_ _); rotate_left; focus (first | (simp; done) | (simp; omega) | omega)) | with_reducible refine Ext.tr ?_ x1 | with_reducible refine Ext.tr ?_ x2 | with_reducible refine Ext.tr ?_ x3 | with_reducible refine Ext.tr ?_ x4 | with_reducible refine Ext.tr ?_ x5 | with_reducible refine Ext.tr ?_ hx | with_reducible refine Ext.tr ?_ hext | with_reducible assumption))⟩
              case measure => simp [intOf]; omega
    · have W := Lib.hid wakes2
      have hx : len ≤ k + 1 ∨ (k + 1 < len ∧ 30 ≤ k) := by omega
      clear hlt
      rcases hx with h | ⟨h1, h2⟩
      · go_wp2_with fail; refine (W.out _).mono ?_; rintro e v1 ⟨rfl, x1⟩; obtain ⟨c1, f1⟩ := x1.rules; have z1 := x1.size
        go_wp2
        go_ret
        exact ⟨rfl, (by repeat (first | with_reducible exact Ext.refl _ | with_reducible apply Ext.drew | with_reducible apply Ext.drewN | with_reducible apply Ext.alloc | ((with_reducible refine Ext.setCell ?_ ?_ _); rotate_left; focus (first | (simp; done) | (simp; omega) | omega)) | with_reducible refine Ext.tr ?_ x1 | with_reducible refine Ext.tr ?_ x2 | with_reducible refine Ext.tr ?_ x3 | with_reducible refine Ext.tr ?_ x4 | with_reducible refine Ext.tr ?_ x5 | with_reducible refine Ext.tr ?_ hx | with_reducible refine Ext.tr ?_ hext | with_reducible assumption))⟩
      · go_wp2_with fail; refine (W.out _).mono ?_; rintro e v1 ⟨rfl, x1⟩; obtain ⟨c1, f1⟩ := x1.rules; have z1 := x1.size
        go_wp2
        go_ret
        exact ⟨rfl, (by repeat (first | with_reducible exact Ext.refl _ | with_reducible apply Ext.drew | with_reducible apply Ext.drewN | with_reducible apply Ext.alloc | ((with_reducible refine Ext.setCell ?_ ?_ _); rotate_left; focus (first | (simp; done) | (simp; omega) | omega)) | with_reducible refine Ext.tr ?_ x1 | with_reducible refine Ext.tr ?_ x2 | with_reducible refine Ext.tr ?_ x3 | with_reducible refine Ext.tr ?_ x4 | with_reducible refine Ext.tr ?_ x5 | with_reducible refine Ext.tr ?_ hx | with_reducible refine Ext.tr ?_ hext | with_reducible assumption))⟩
set_option maxRecDepth 100000 in
theorem order_zero (a : Option Addr) (cap : Nat) (w : World) :
    Calls Try.prog 9 #[.slice a 0 cap] w fun e w' => e = .returned (.bool true) ∧ Ext w w' := by
  have W := Lib.hid wakes2
  go_enter Try.func9, Try.ntmps9
  go_wp2_with fail
  refine wp_loop_rounds 1 ?_
  rw [rounds_succ]
  go_wp2_with fail; refine (W.out _).mono ?_; rintro e v1 ⟨rfl, x1⟩; obtain ⟨c1, f1⟩ := x1.rules; have z1 := x1.size
  go_wp2
  go_ret
  exact ⟨rfl, (by repeat (first | with_reducible exact Ext.refl _ | with_reducible apply Ext.drew | with_reducible apply Ext.drewN | with_reducible apply Ext.alloc | ((with_reducible refine Ext.setCell ?_ ?_ _); rotate_left; focus (first | (simp; done) | (simp; omega) | omega)) | with_reducible refine Ext.tr ?_ x1 | with_reducible refine Ext.tr ?_ x2 | with_reducible refine Ext.tr ?_ x3 | with_reducible refine Ext.tr ?_ x4 | with_reducible refine Ext.tr ?_ x5 | with_reducible refine Ext.tr ?_ hx | with_reducible refine Ext.tr ?_ hext | with_reducible assumption))⟩
set_option maxRecDepth 100000 in
theorem order_any {H : Type} {enc : TypeId × Value → H} {w : World} {base : Nat} {v : Value} {d : DataW H} {p : List MemPlace}
    (hv : Value.okWide Try.prog w .any base 61 v) (h : DataW.Trod enc Try.prog w 0 (fun _ => true) true 61 v d p) :
    Calls Try.prog 9 #[v] w fun e w' => e = .returned (.bool true) ∧ Ext w w' := by
  rcases twos_open hv h with ⟨a, cap, rfl⟩ | ⟨b, o, len, cap, rfl, _, hl, hT⟩
  · exact order_zero a cap w
  · exact order_walk b o len cap w hl hT
end Go.Proofs.Ytielcbpjnjdlmaa
