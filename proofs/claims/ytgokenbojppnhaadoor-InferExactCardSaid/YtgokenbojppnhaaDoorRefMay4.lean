/- ratchetref26.May: of a definition that is not too large it tells goodD. -/
import Derived.Test.YtgokenbojppnhaaDoorRefMay3
import Derived.Test.YtgokenbojppnhaaDoorDefSlim
namespace Go.Proofs.YtgokenbojppnhaaDoor
open Go.RowKit
mutual
theorem weigh_count : ∀ (l : Lay) {deep n : Nat}, n < 1000 → l.weigh deep n < 1000 → l.count + n ≤ l.weigh deep n
  | .mk f b, deep, n, h0, h => by
    rw [Lay.weigh] at h ⊢
    rw [Lay.count]
    split at h
    · omega
    · rename_i h1
      rw [if_neg h1]
      have := weighs_count b h
      omega
theorem weighs_count : ∀ (L : List Lay) {deep n : Nat}, weighS deep n L < 1000 → countS L + n ≤ weighS deep n L
  | [], deep, n, h => by rw [weighS, countS]; omega
  | l :: ls, deep, n, h => by
    rw [weighS] at h ⊢
    rw [countS]
    by_cases h1 : n < 1000
    · rw [if_pos h1] at h ⊢
      have i1 := weighs_count ls h
      have g2 := weighs_ge ls (deep := deep) (n := l.weigh deep n)
      have g1 := weigh_count l (deep := deep) h1 (by omega)
      omega
    · rw [if_neg h1] at h
      exact absurd h h1
end
theorem heavy_count {d : DefL} (h : heavyS d = false) : countS d.layers ≤ 200 := by
  unfold heavyS at h
  simp only [Bool.or_eq_false_iff, decide_eq_false_iff_not] at h
  have h2 := h.2
  unfold weightS at h2
  rw [if_neg (by omega)] at h2
  have := weighs_count d.layers (deep := 0) (n := 0) (by omega)
  omega
set_option maxHeartbeats 20000000 in
set_option maxRecDepth 100000 in
theorem mayR_any {A : Nat → Prop} {n : Nat} {w : World} {v : Value} {d : DefL} (h : DefAt A n w v d) (hcnt : countS d.layers ≤ 200) :
    Calls Tryd.prog 19 #[v] w fun e w' => e = .returned (.bool (goodD d)) ∧ Ext w w' := by
  obtain ⟨a1, c1, a2, c2, rfl, hi, hl⟩ := h.is
  have HL := Lib.hid hl
  obtain ⟨a1', c1', e1, -, -, hc⟩ := hi
  cases e1
  have HC := Lib.hid hc
  rw [← may_good]
  obtain ⟨G, hG⟩ : ∃ G, mayD d = G := ⟨_, rfl⟩
  rw [hG]
  unfold mayD at hG
  have HG2 := Lib.hid hG
  have CN := Lib.hid (fun u (x : Ext w u) => countR_any n A _ d.layers u (hl.ext x) (by omega))
  have DP := Lib.hid (fun u (x : Ext w u) => deepR_any n A _ d.layers 4 u (hl.ext x) (by omega) (by omega))
  have LR := Lib.hid (fun u (x : Ext w u) => layersR_any n A _ d.layers 0 u (hl.ext x) (by omega))
  clear h hl hc hG hcnt
  by_cases b1 : d.input.length < 1 ∨ 3 < d.input.length
  · obtain rfl : G = false := by rw [← HG2.out, decide_eq_false (by omega)]; rfl
    clear HG2 CN DP LR
    rcases b1 with b1 | b1
    · have z1 : (d.input.length : Int) < 1 := by omega
      clear b1
      go_enter Tryd.func19, Tryd.ntmps19
      go_wp2
      go_ret
      exact ⟨rfl, (by repeat (first | with_reducible exact Ext.refl _ | with_reducible apply Ext.drew | with_reducible apply Ext.drewN | with_reducible apply Ext.alloc | ((with_reducible refine Ext.setCell ?_ ?_ _); rotate_left; focus (first | (simp; done) | (simp; omega) | omega)) | with_reducible refine Ext.tr ?_ x1 | with_reducible refine Ext.tr ?_ x2 | with_reducible refine Ext.tr ?_ x3 | with_reducible refine Ext.tr ?_ hx | with_reducible assumption))⟩
    · have z1 : ¬ (d.input.length : Int) < 1 := by omega
      have z2 : (3 : Int) < (d.input.length : Int) := by omega
      clear b1
      go_enter Tryd.func19, Tryd.ntmps19
      go_wp2
      go_ret
      exact ⟨rfl, (by repeat (first | with_reducible exact Ext.refl _ | with_reducible apply Ext.drew | with_reducible apply Ext.drewN | with_reducible apply Ext.alloc | ((with_reducible refine Ext.setCell ?_ ?_ _); rotate_left; focus (first | (simp; done) | (simp; omega) | omega)) | with_reducible refine Ext.tr ?_ x1 | with_reducible refine Ext.tr ?_ x2 | with_reducible refine Ext.tr ?_ x3 | with_reducible refine Ext.tr ?_ hx | with_reducible assumption))⟩
  · have z1 : ¬ (d.input.length : Int) < 1 := by omega
    have z2 : ¬ (3 : Int) < (d.input.length : Int) := by omega
    by_cases b2 : d.loss = 1 ∨ d.loss = 2
    · have hw : ((d.loss != 1) = false) ∨ ((d.loss != 1) = true ∧ (d.loss != 2) = false) := by
        rcases b2 with h | h
        · exact .inl (by rw [h]; rfl)
        · exact .inr ⟨by rw [h]; rfl, by rw [h]; rfl⟩
      obtain ⟨DS, hDS⟩ : ∃ DS, deepS 4 d.layers = DS := ⟨_, rfl⟩
      have HG3 := Lib.hid (show G = (DS && d.input.all (fun x => decide (1 ≤ x ∧ x ≤ 4096)) && decide (countS d.layers ≤ 64) && okA 0 d.layers) by rw [← HG2.out, decide_eq_true (by omega), decide_eq_true b2, hDS]; simp)
      rw [hDS] at DP
      clear HG2 b1 b2 hDS
      rcases hw with w1 | ⟨w1, w2⟩
      all_goals
        go_enter Tryd.func19, Tryd.ntmps19
        go_wp2_with fail
        refine (DP.out _ (by repeat (first | with_reducible exact Ext.refl _ | with_reducible apply Ext.drew | with_reducible apply Ext.drewN | with_reducible apply Ext.alloc | ((with_reducible refine Ext.setCell ?_ ?_ _); rotate_left; focus (first | (simp; done) | (simp; omega) | omega)) | with_reducible refine Ext.tr ?_ x1 | with_reducible refine Ext.tr ?_ x2 | with_reducible refine Ext.tr ?_ x3 | with_reducible refine Ext.tr ?_ hx | with_reducible assumption))).mono ?_
        rintro e v1 ⟨rfl, x1⟩
        have BV := (Blk.new w 27 #[.slice a1 d.input.length c1, .slice a2 d.layers.length c2, .int .i64 d.loss]).ext x1
        have XV : Ext w v1 := (by repeat (first | with_reducible exact Ext.refl _ | with_reducible apply Ext.drew | with_reducible apply Ext.drewN | with_reducible apply Ext.alloc | ((with_reducible refine Ext.setCell ?_ ?_ _); rotate_left; focus (first | (simp; done) | (simp; omega) | omega)) | with_reducible refine Ext.tr ?_ x1 | with_reducible refine Ext.tr ?_ x2 | with_reducible refine Ext.tr ?_ x3 | with_reducible refine Ext.tr ?_ hx | with_reducible assumption))
        obtain ⟨k0, k1, k2, zk⟩ := BV.three'
        clear DP BV x1
        cases DS with
        | false =>
          obtain rfl : G = false := by rw [HG3.out]; rfl
          clear HG3 CN LR
          go_wp2_with fail
          go_ret
          exact ⟨rfl, XV⟩
        | true =>
          have HG4 := Lib.hid (show G = (d.input.all (fun x => decide (1 ≤ x ∧ x ≤ 4096)) && decide (countS d.layers ≤ 64) && okA 0 d.layers) by rw [HG3.out]; rfl)
          clear HG3
          go_wp2_with fail
          go_loopw [3] (fun c wr => ∃ j : Nat, j ≤ d.input.length ∧ c = .int .i64 j ∧ (∀ q (hq : q < d.input.length), q < j → 1 ≤ d.input[q] ∧ d.input[q] ≤ 4096) ∧ wr = v1) (fun c _ => d.input.length - (intOf c).toNat)
          case atStart => exact ⟨0, Nat.zero_le _, rfl, fun q _ h => absurd h (Nat.not_lt_zero q), rfl⟩
          case round =>
            obtain ⟨j, hj, rfl, hin, hwr⟩ := hrel
            have HIN := Lib.hid hin
            clear hin
            rcases Nat.lt_or_ge j d.input.length with hlt | hge
            · have hjz : (j : Int) < (d.input.length : Int) := by omega
              obtain ⟨b0, o0, rfl, hc0⟩ := HC.out (by intro e; rw [e] at hlt; simp at hlt)
              have c0 := XV.cell (hc0 j hlt)
              rw [List.getD_eq_getElem?_getD, List.getElem?_eq_getElem hlt] at c0
              simp only [Option.getD_some] at c0
              have zc := cell_lt c0
              simp only at zc
              have BAD := Lib.hid (fun (h : ¬ (1 ≤ d.input[j] ∧ d.input[j] ≤ 4096)) => (show G = false by
                rw [HG4.out, show d.input.all (fun x => decide (1 ≤ x ∧ x ≤ 4096)) = false from List.all_eq_false.2 ⟨d.input[j], List.getElem_mem hlt, by simpa using h⟩]; rfl))
              have OKJ := Lib.hid (fun (h : 1 ≤ d.input[j] ∧ d.input[j] ≤ 4096) q (hq : q < d.input.length) (hqj : q < j + 1) => (show 1 ≤ d.input[q] ∧ d.input[q] ≤ 4096 by
                rcases Nat.lt_succ_iff_lt_or_eq.1 hqj with h' | rfl
                · exact HIN.out q hq h'
                · exact h))
              obtain ⟨x, hx⟩ : ∃ x, d.input[j] = x := ⟨_, rfl⟩
              rw [hx] at c0 BAD OKJ
              subst hwr
              clear hc0 hx
              by_cases x1 : x < 1
              · obtain rfl : G = false := BAD.out (by omega)
                clear BAD OKJ HG4 CN LR
                go_wp2_with fail
                go_ret
                first | exact XV | exact ⟨rfl, XV⟩
              · by_cases x2 : 4096 < x
                · obtain rfl : G = false := BAD.out (by omega)
                  clear BAD OKJ HG4 CN LR
                  go_wp2_with fail
                  go_ret
                  first | exact XV | exact ⟨rfl, XV⟩
                · have O2 := Lib.hid (OKJ.out ⟨by omega, by omega⟩)
                  clear BAD OKJ
                  go_wp2_with fail
                  exact ⟨⟨j + 1, by omega, by go_num, O2.out, trivial⟩, by simp [intOf]; omega⟩
            · have hjz : ¬ (j : Int) < (d.input.length : Int) := by omega
              have HG5 := Lib.hid (show G = (decide (countS d.layers ≤ 64) && okA 0 d.layers) by
                rw [HG4.out, show d.input.all (fun x => decide (1 ≤ x ∧ x ≤ 4096)) = true from List.all_eq_true.2 (fun y hy => by
                  obtain ⟨q, hq, rfl⟩ := List.getElem_of_mem hy
                  simpa using HIN.out q hq (by omega))]; rfl)
              obtain ⟨T, hT⟩ : ∃ T, countS d.layers = T := ⟨_, rfl⟩
              obtain ⟨O, hO⟩ : ∃ O, okA 0 d.layers = O := ⟨_, rfl⟩
              rw [hT] at HG5 CN
              rw [hO] at HG5 LR
              subst hwr
              clear HG4 HIN HC hT hO
              go_wp2_with fail
              refine (CN.out _ XV).mono ?_
              rintro e v2 ⟨rfl, x2⟩
              replace k1 := x2.cell k1
              replace zk := cell_lt k1
              simp only at zk
              have X2 := Lib.hid (XV.tr x2)
              clear CN k0 k2 x2 XV
              by_cases ht : T ≤ 64
              · obtain rfl : G = O := by rw [HG5.out, decide_eq_true ht]; rfl
                have tz : (T : Int) ≤ 64 := by omega
                clear HG5
                go_wp2_with fail
                refine (LR.out _ X2.out).mono ?_
                rintro e v3 ⟨rfl, x3⟩
                clear LR
                go_wp2_with fail
                go_ret
                exact ⟨rfl, X2.out.tr x3⟩
              · obtain rfl : G = false := by rw [HG5.out, decide_eq_false ht]; rfl
                have tz : ¬ (T : Int) ≤ 64 := by omega
                clear HG5 LR
                go_wp2_with fail
                go_ret
                exact ⟨rfl, X2.out⟩
    · have w1 : (d.loss != 1) = true := by rw [bne, beq_eq_false_iff_ne.2 (fun h => b2 (.inl h))]; rfl
      have w2 : (d.loss != 2) = true := by rw [bne, beq_eq_false_iff_ne.2 (fun h => b2 (.inr h))]; rfl
      obtain rfl : G = false := by rw [← HG2.out, decide_eq_false b2]; simp
      clear HG2 CN DP LR b1 b2
      go_enter Tryd.func19, Tryd.ntmps19
      go_wp2
      go_ret
      exact ⟨rfl, (by repeat (first | with_reducible exact Ext.refl _ | with_reducible apply Ext.drew | with_reducible apply Ext.drewN | with_reducible apply Ext.alloc | ((with_reducible refine Ext.setCell ?_ ?_ _); rotate_left; focus (first | (simp; done) | (simp; omega) | omega)) | with_reducible refine Ext.tr ?_ x1 | with_reducible refine Ext.tr ?_ x2 | with_reducible refine Ext.tr ?_ x3 | with_reducible refine Ext.tr ?_ hx | with_reducible assumption))⟩
end Go.Proofs.YtgokenbojppnhaaDoor
