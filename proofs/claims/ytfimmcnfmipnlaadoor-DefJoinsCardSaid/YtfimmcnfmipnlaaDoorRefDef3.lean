/- Package ratchetref26: fits, layer. -/
import Derived.Test.YtfimmcnfmipnlaaDoorRefDef2
namespace Go.Proofs.YtfimmcnfmipnlaaDoor
open Go.RowKit
theorem lows_cases (k j : Nat) : (k = 7 ∧ lowK k j = 0 ∧ highK k = 99) ∨ (k = 2 ∧ j = 4 ∧ lowK k j = 0 ∧ highK k = 4096) ∨ (k = 2 ∧ j ≠ 4 ∧ lowK k j = 1 ∧ highK k = 4096) ∨ (k ≠ 2 ∧ k ≠ 7 ∧ lowK k j = 1 ∧ highK k = 4096) := by
  unfold lowK highK
  by_cases h7 : k = 7
  · exact .inl ⟨h7, by simp [h7], by simp [h7]⟩
  · by_cases h2 : k = 2
    · by_cases h4 : j = 4
      · exact .inr (.inl ⟨h2, h4, by simp [h2, h4], by simp [h7]⟩)
      · exact .inr (.inr (.inl ⟨h2, h4, by simp [h2, h4], by simp [h7]⟩))
    · exact .inr (.inr (.inr ⟨h2, h7, by simp [h2, h7], by simp [h7]⟩))
set_option maxHeartbeats 4000000 in
theorem fitsR_any (k : Nat) (hk : k ≤ 13) {v : Value} {ns : List Nat} {w : World} (h : RowV w v (natsV ns)) (_hn : ns.length ≤ 100000) :
    Calls Tryd.prog 30 #[.int .i64 k, v] w fun e w' => e = .returned (.bool (fitsK k ns)) ∧ Ext w w' := by
  have RW := Lib.hid h
  obtain ⟨a, cap, rfl, -, -, -⟩ := h
  have hln : (natsV ns).length = ns.length := by simp [natsV]
  rw [hln] at RW ⊢
  have NU := Lib.hid (fun u => numbersR_any k hk (LayF.kind0 k) (.slice none 0 0) rfl u)
  simp only [layA, LayF.kind0, LayF.zero] at NU
  have wk : (placesK k).length ≤ 5 := places_len k
  clear hln
  by_cases hl : ns.length = (placesK k).length
  · have FF := Lib.hid (show fitsK k ns = fitsFrom k 0 ns by unfold fitsK; rw [decide_eq_true hl, Bool.true_and])
    obtain ⟨B, hB⟩ : ∃ B, fitsK k ns = B := ⟨_, rfl⟩
    rw [hB] at FF ⊢
    have hlz : ((ns.length : Int) != ((placesK k).length : Int)) = false := by simp; omega
    clear hB
    go_enter Tryd.func30, Tryd.ntmps30
    go_wp2_with fail
    refine (NU.out _).mono ?_
    rintro e w1 ⟨v1, rfl, x1, own⟩
    obtain ⟨a1, c1, rfl⟩ := own_form0 own
    clear NU own
    go_wp2_with fail
    go_loopw [5, 6, 7] (fun i _lo _hi wr => ∃ j : Nat, j ≤ ns.length ∧ i = .int .i64 j ∧ B = fitsFrom k j (ns.drop j) ∧ wr = w1) (fun i _ _ _ => ns.length - (intOf i).toNat)
    case atStart => exact ⟨0, Nat.zero_le _, rfl, FF.out, rfl⟩
    case round =>
      obtain ⟨j, hj, rfl, hB, hwr⟩ := hrel
      subst hwr
      have HB := Lib.hid hB
      clear hB FF
      rcases Nat.lt_or_ge j ns.length with hlt | hge
      · have hjz : (j : Int) < (ns.length : Int) := by omega
        obtain ⟨g, o, rfl, c0⟩ := natsV_at RW.out hlt
        have kc := x1.cell c0
        have zc := cell_lt kc
        simp only at zc
        have DR := Lib.hid (List.drop_eq_getElem_cons hlt)
        have LC := lows_cases k j
        have FS := Lib.hid (show B = (decide (lowK k j ≤ (ns[j] : Int) ∧ (ns[j] : Int) ≤ highK k) && fitsFrom k (j + 1) (ns.drop (j + 1))) by rw [HB.out, DR.out]; rfl)
        clear c0 DR HB
        generalize ns[j] = n at *
        rcases LC with ⟨h1, h3, h4⟩ | ⟨h1, h2, h3, h4⟩ | ⟨h1, h2, h3, h4⟩ | ⟨h1, h2, h3, h4⟩
        · subst h1
          rw [h3, h4] at FS
          have n0 : ¬ (n : Int) < 0 := by omega
          by_cases hh : (99 : Int) < (n : Int)
          · obtain rfl : B = false := by rw [FS.out, decide_eq_false (by omega)]; rfl
            clear FS h3 h4
            go_wp2
            go_ret
            exact ⟨rfl, x1⟩
          · have FS2 := Lib.hid (show B = fitsFrom 7 (j + 1) (ns.drop (j + 1)) by rw [FS.out, decide_eq_true (by omega)]; rfl)
            clear FS h3 h4
            go_wp2_with fail
            exact ⟨⟨j + 1, by omega, by go_num, FS2.out, trivial⟩, by simp [intOf]; omega⟩
        · subst h1
          subst h2
          rw [h3, h4] at FS
          have n0 : ¬ (n : Int) < 0 := by omega
          by_cases hh : (4096 : Int) < (n : Int)
          · obtain rfl : B = false := by rw [FS.out, decide_eq_false (by omega)]; rfl
            clear FS h3 h4
            go_wp2
            go_ret
            exact ⟨rfl, x1⟩
          · have FS2 := Lib.hid (show B = fitsFrom 2 (4 + 1) (ns.drop (4 + 1)) by rw [FS.out, decide_eq_true (by omega)]; rfl)
            clear FS h3 h4
            go_wp2_with fail
            exact ⟨⟨4 + 1, by omega, by go_num, FS2.out, trivial⟩, by simp [intOf]; omega⟩
        · subst h1
          rw [h3, h4] at FS
          have j4 : ((j : Int) == 4) = false := by simp; omega
          by_cases h0 : (n : Int) < 1
          · obtain rfl : B = false := by rw [FS.out, decide_eq_false (by omega)]; rfl
            clear FS h3 h4
            go_wp2
            go_ret
            exact ⟨rfl, x1⟩
          · by_cases hh : (4096 : Int) < (n : Int)
            · obtain rfl : B = false := by rw [FS.out, decide_eq_false (by omega)]; rfl
              clear FS h3 h4
              go_wp2
              go_ret
              exact ⟨rfl, x1⟩
            · have FS2 := Lib.hid (show B = fitsFrom 2 (j + 1) (ns.drop (j + 1)) by rw [FS.out, decide_eq_true (by omega)]; rfl)
              clear FS h3 h4
              go_wp2_with fail
              exact ⟨⟨j + 1, by omega, by go_num, FS2.out, trivial⟩, by simp [intOf]; omega⟩
        · rw [h3, h4] at FS
          have k2 : ((k : Int) == 2) = false := by simp; omega
          have k7 : ((k : Int) == 7) = false := by simp; omega
          by_cases h0 : (n : Int) < 1
          · obtain rfl : B = false := by rw [FS.out, decide_eq_false (by omega)]; rfl
            clear FS h3 h4
            go_wp2
            go_ret
            exact ⟨rfl, x1⟩
          · by_cases hh : (4096 : Int) < (n : Int)
            · obtain rfl : B = false := by rw [FS.out, decide_eq_false (by omega)]; rfl
              clear FS h3 h4
              go_wp2
              go_ret
              exact ⟨rfl, x1⟩
            · have FS2 := Lib.hid (show B = fitsFrom k (j + 1) (ns.drop (j + 1)) by rw [FS.out, decide_eq_true (by omega)]; rfl)
              clear FS h3 h4
              go_wp2_with fail
              exact ⟨⟨j + 1, by omega, by go_num, FS2.out, trivial⟩, by simp [intOf]; omega⟩
      · have hjz : ¬ (j : Int) < (ns.length : Int) := by omega
        obtain rfl : B = true := by rw [HB.out, List.drop_of_length_le hge]; rfl
        clear HB
        go_wp2
        go_ret
        exact ⟨rfl, x1⟩
  · have hlz : ((ns.length : Int) != ((placesK k).length : Int)) = true := by simp; omega
    rw [show fitsK k ns = false by unfold fitsK; rw [decide_eq_false hl, Bool.false_and]]
    go_enter Tryd.func30, Tryd.ntmps30
    go_wp2_with fail
    refine (NU.out _).mono ?_
    rintro e w1 ⟨v1, rfl, x1, own⟩
    obtain ⟨a1, c1, rfl⟩ := own_form0 own
    clear NU own
    go_wp2
    go_ret
    exact ⟨rfl, x1⟩
end Go.Proofs.YtfimmcnfmipnlaaDoor
