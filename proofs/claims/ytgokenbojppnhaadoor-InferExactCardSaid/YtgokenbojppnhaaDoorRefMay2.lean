/- ratchetref26.Count, deepest: the walks. -/
import Derived.Test.YtgokenbojppnhaaDoorDefMay
import Derived.Test.YtgokenbojppnhaaDoorDefText
import Derived.Test.YtgokenbojppnhaaDoorEqLay
namespace Go.Proofs.YtgokenbojppnhaaDoor
open Go.RowKit
def CountOk (n : Nat) : Prop := ∀ (A : Nat → Prop) (v : Value) (L : List Lay) (w : World), LaysAt A w n v L → countS L ≤ 100000 →
  Calls Tryd.prog 27 #[v] w fun e w' => e = .returned (.int .i64 (countS L)) ∧ Ext w w'
theorem count_cons (l : Lay) (ls : List Lay) : countS (l :: ls) = countS l.b + 1 + countS ls := by
  cases l with
  | mk f b => rfl
set_option maxHeartbeats 4000000 in
set_option maxRecDepth 100000 in
theorem count_step (n : Nat) (IH : ∀ m, n = m + 1 → CountOk m) : CountOk n := by
  intro A v L w hL hC
  obtain ⟨a, c, rfl⟩ := hL.form
  have HL := Lib.hid hL
  have IH' := Lib.hid IH
  have hlen : L.length ≤ 9223372036854775807 := by have := count_len L; omega
  obtain ⟨T, hT⟩ : ∃ T, countS L = T := ⟨_, rfl⟩
  rw [hT] at hC ⊢
  clear hL IH
  go_enter Tryd.func27, Tryd.ntmps27
  go_wp2_with fail
  go_loopw [3, 4] (fun x i wr => ∃ k nn : Nat, k ≤ L.length ∧ i = .int .i64 k ∧ x = .int .i64 nn ∧ nn + countS (L.drop k) = T ∧ Ext w wr) (fun _ i _ => L.length - (intOf i).toNat)
  case atStart => exact ⟨0, 0, Nat.zero_le _, rfl, rfl, by rw [List.drop_zero, hT]; omega, Ext.refl _⟩
  case round =>
    obtain ⟨k, nn, hk, rfl, rfl, hw, hx⟩ := hrel
    have HX := Lib.hid hx
    rcases Nat.lt_or_ge k L.length with hlt | hge
    · have hlz : (k : Int) < (L.length : Int) := by omega
      rw [List.drop_eq_getElem_cons hlt, count_cons] at hw
      have HL1 := Lib.hid (HL.out.ext hx)
      cases n with
      | zero => have := HL.out.1; rw [this] at hlt; simp at hlt
      | succ n =>
        obtain ⟨a', c', e, h1, h2⟩ := HL1.out
        obtain ⟨b, o, rfl, hAb, hel⟩ := h2 (by rintro rfl; simp at hlt)
        cases e
        obtain ⟨bv, ⟨ba, bn, bc, rfl⟩, hc, hb⟩ := hel k hlt
        have c8 : wr.cell? ⟨b, o + k * 9 + 8, none⟩ = some (.slice ba bn bc) := hc 8 (by omega)
        have zc := cell_lt c8
        simp only at zc
        have CA := Lib.hid (IH'.out n rfl A (.slice ba bn bc) L[k].b wr hb (by omega))
        obtain ⟨C, hC2⟩ : ∃ C, countS L[k].b = C := ⟨_, rfl⟩
        rw [hC2] at hw CA
        have w1 : IntKind.i64.wrap ((nn : Int) + 1) = ((nn + 1 : Nat) : Int) := by rw [IntKind.wrap_i64]; omega
        have HW := Lib.hid hw
        clear hel hc hb h2 HL1 HL IH' hw hC2 hx hT
        go_wp2_with fail
        refine CA.out.mono ?_
        rintro e w3 ⟨rfl, x3⟩
        have X3 := Lib.hid (HX.out.tr x3)
        clear CA x3 c8
        go_wp2_with fail
        exact ⟨⟨k + 1, nn + 1 + C, by omega, by go_num, by have := HW.out; refine congrArg (Value.int .i64) ?_; unfold wrap64; omega, by have := HW.out; omega, X3.out⟩, by simp [intOf]; omega⟩
    · have hlz : ¬ (k : Int) < (L.length : Int) := by omega
      rw [List.drop_eq_nil_of_le hge] at hw
      have : nn = T := by rw [← hw]; simp [countS]
      subst this
      clear HL IH'
      go_wp2_with fail
      go_ret
      exact ⟨rfl, HX.out⟩
theorem countR_any : ∀ n, CountOk n
  | 0 => count_step 0 (fun _ h => by omega)
  | n + 1 => count_step (n + 1) (fun m h => by
    have e : m = n := by omega
    rw [e]; exact countR_any n)
def DeepOk (n : Nat) : Prop := ∀ (A : Nat → Prop) (v : Value) (L : List Lay) (left : Int) (w : World), LaysAt A w n v L → -1 ≤ left → left ≤ 4 →
  Calls Tryd.prog 26 #[v, .int .i64 left] w fun e w' => e = .returned (.bool (deepS left L)) ∧ Ext w w'
theorem deepA_cons (left : Int) (l : Lay) (ls : List Lay) : deepA left (l :: ls) = ((l.b.isEmpty || deepS (left - 1) l.b) && deepA left ls) := by
  cases l with
  | mk f b => rfl
set_option maxHeartbeats 4000000 in
set_option maxRecDepth 100000 in
theorem deep_step (n : Nat) (IH : ∀ m, n = m + 1 → DeepOk m) : DeepOk n := by
  intro A v L left w hL hd1 hd2
  obtain ⟨a, c, rfl⟩ := hL.form
  have HL := Lib.hid hL
  have IH' := Lib.hid IH
  clear hL IH
  by_cases h0 : left < 0
  · rw [show deepS left L = false by unfold deepS; rw [decide_eq_false (by omega)]; rfl]
    clear HL IH'
    go_enter Tryd.func26, Tryd.ntmps26
    go_wp2_with fail
    go_ret
    exact ⟨rfl, Ext.refl _⟩
  by_cases h64 : 64 < L.length
  · have hz : (64 : Int) < (L.length : Int) := by omega
    rw [show deepS left L = false by unfold deepS; rw [decide_eq_false (show ¬ L.length ≤ 64 by omega)]; simp]
    clear HL IH'
    go_enter Tryd.func26, Tryd.ntmps26
    go_wp2_with fail
    go_ret
    exact ⟨rfl, Ext.refl _⟩
  have hz : ¬ (64 : Int) < (L.length : Int) := by omega
  have hlen : L.length ≤ 9223372036854775807 := by omega
  obtain ⟨T, hT⟩ : ∃ T, deepA left L = T := ⟨_, rfl⟩
  rw [show deepS left L = T by unfold deepS; rw [decide_eq_true (show 0 ≤ left by omega), decide_eq_true (show L.length ≤ 64 by omega), hT]; rfl]
  have HT := Lib.hid hT
  clear hT
  have wl : IntKind.i64.wrap (left - 1) = left - 1 := by rw [IntKind.wrap_i64]; omega
  go_enter Tryd.func26, Tryd.ntmps26
  go_wp2_with fail
  go_loopw [5] (fun i wr => ∃ k : Nat, k ≤ L.length ∧ i = .int .i64 k ∧ deepA left (L.drop k) = T ∧ Ext w wr) (fun i _ => L.length - (intOf i).toNat)
  case atStart => exact ⟨0, Nat.zero_le _, rfl, HT.out, Ext.refl _⟩
  case round =>
    obtain ⟨k, hk, rfl, hw, hx⟩ := hrel
    have HX := Lib.hid hx
    clear HT
    rcases Nat.lt_or_ge k L.length with hlt | hge
    · have hlz : (k : Int) < (L.length : Int) := by omega
      rw [List.drop_eq_getElem_cons hlt, deepA_cons] at hw
      have HL1 := Lib.hid (HL.out.ext hx)
      cases n with
      | zero => have := HL.out.1; rw [this] at hlt; simp at hlt
      | succ n =>
        obtain ⟨a', c', e, h1, h2⟩ := HL1.out
        obtain ⟨b, o, rfl, hAb, hel⟩ := h2 (by rintro rfl; simp at hlt)
        cases e
        obtain ⟨bv, -, hc, hb⟩ := hel k hlt
        obtain ⟨ba, bc, rfl⟩ := hb.form
        have c8 : wr.cell? ⟨b, o + k * 9 + 8, none⟩ = some (.slice ba L[k].b.length bc) := hc 8 (by omega)
        have zc := cell_lt c8
        simp only at zc
        have CA := Lib.hid (IH'.out n rfl A (.slice ba L[k].b.length bc) L[k].b (left - 1) wr hb (by omega) (by omega))
        clear hel hc hb h2 HL1 HL IH' hx
        generalize L[k].b = bl at *
        by_cases hbe : bl = []
        · subst hbe
          have HW := Lib.hid (show deepA left (L.drop (k + 1)) = T by rw [← hw]; rfl)
          simp only [List.length_nil] at *
          clear CA hw
          go_wp2_with fail
          exact ⟨⟨k + 1, by omega, by go_num, HW.out, HX.out⟩, by simp [intOf]; omega⟩
        · have hpos : 0 < bl.length := List.length_pos_iff.2 hbe
          have hpz : (0 : Int) < (bl.length : Int) := by omega
          have hE : bl.isEmpty = false := by cases bl with
            | nil => exact absurd rfl hbe
            | cons _ _ => rfl
          rw [hE, Bool.false_or] at hw
          clear hbe hE hpos
          obtain ⟨D, hD⟩ : ∃ D, deepS (left - 1) bl = D := ⟨_, rfl⟩
          rw [hD] at hw CA
          clear hD
          cases D with
          | true =>
            rw [Bool.true_and] at hw
            have HW := Lib.hid hw
            clear hw
            go_wp2_with fail
            refine CA.out.mono ?_
            rintro e w3 ⟨rfl, x3⟩
            have X3 := Lib.hid (HX.out.tr x3)
            clear CA x3 c8
            go_wp2_with fail
            exact ⟨⟨k + 1, by omega, by go_num, HW.out, X3.out⟩, by simp [intOf]; omega⟩
          | false =>
            rw [Bool.false_and] at hw
            subst hw
            go_wp2_with fail
            refine CA.out.mono ?_
            rintro e w3 ⟨rfl, x3⟩
            have X3 := Lib.hid (HX.out.tr x3)
            clear CA x3 c8
            go_wp2_with fail
            go_ret
            exact ⟨rfl, X3.out⟩
    · have hlz : ¬ (k : Int) < (L.length : Int) := by omega
      rw [List.drop_eq_nil_of_le hge, deepA] at hw
      subst hw
      clear HL IH'
      go_wp2_with fail
      go_ret
      exact ⟨rfl, HX.out⟩
theorem deepR_any : ∀ n, DeepOk n
  | 0 => deep_step 0 (fun _ h => by omega)
  | n + 1 => deep_step (n + 1) (fun m h => by
    have e : m = n := by omega
    rw [e]; exact deepR_any n)
end Go.Proofs.YtgokenbojppnhaaDoor
