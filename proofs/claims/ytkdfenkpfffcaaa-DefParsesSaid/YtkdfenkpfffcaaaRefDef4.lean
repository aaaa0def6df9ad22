/- Package ratchetref26: layer, lines. -/
import Derived.Test.YtkdfenkpfffcaaaRefDef3
namespace Go.Proofs.Ytkdfenkpfffcaaa
open Go.RowKit
theorem RowV.tail {w : World} {a : Option Addr} {n c : Nat} {x : Value} {vs : List Value} (h : RowV w (.slice a n c) (x :: vs)) : ∃ g o, a = some ⟨g, o, none⟩ ∧ n = vs.length + 1 ∧ n ≤ c ∧ c ≤ maxLen ∧ w.cell? ⟨g, o, none⟩ = some x ∧ RowV w (.slice (some ⟨g, o + 1, none⟩) vs.length (c - 1)) vs := by
  obtain ⟨a', c', e, h1, h2, h3⟩ := h
  injection e with e1 e2 e3
  subst e1
  subst e3
  obtain ⟨g, o, rfl, hc⟩ := h3 (by simp)
  refine ⟨g, o, rfl, by simpa using e2, by rw [e2]; exact h1, h2, hc 0 (by simp), ⟨_, _, rfl, by simp at h1; omega, by omega, fun _ => ⟨g, o + 1, rfl, fun i hi => ?_⟩⟩⟩
  rw [show o + 1 + i = o + (i + 1) by omega, hc (i + 1) (by simpa using hi)]
  simp
theorem kindR_of {k : Nat} (h1 : 1 ≤ k) (h2 : k ≤ 13) : kindR (nameB k) = some k := by
  have hh : k = 1 ∨ k = 2 ∨ k = 3 ∨ k = 4 ∨ k = 5 ∨ k = 6 ∨ k = 7 ∨ k = 8 ∨ k = 9 ∨ k = 10 ∨ k = 11 ∨ k = 12 ∨ k = 13 := by omega
  rcases hh with rfl | rfl | rfl | rfl | rfl | rfl | rfl | rfl | rfl | rfl | rfl | rfl | rfl <;> decide
theorem kindR_no {x : Bs} (h : ∀ k, 1 ≤ k → k ≤ 13 → nameB k ≠ x) : kindR x = none := by
  refine List.find?_eq_none.2 (fun k hk => ?_)
  have : 1 ≤ k ∧ k ≤ 13 := by
    simp only [List.mem_cons, List.not_mem_nil, or_false] at hk
    omega
  simpa using h k this.1 this.2
theorem oneV_none : oneV none = .tuple #[.agg (layA LayF.zero (.slice none 0 0)), .bool false] := rfl
set_option maxHeartbeats 100000000 in
set_option maxRecDepth 100000 in
theorem layerRef_any (s : Bs) (w : World) (hs : s.length ≤ 100000) :
    Calls Try.prog 90 #[.string (ba s)] w fun e w' => e = .returned (oneV (layerR s)) ∧ Ext w w' := by
  have WO := Lib.hid (fun u => wordsR_any s u hs)
  obtain ⟨x, ws, hx⟩ := cutAt_some 32 s
  have hmem : ∀ y ∈ x :: ws, y.length ≤ 100000 := fun y hy => by have := cutAt_mem (c := 32) (s := s) (x := y) (by rw [hx]; exact hy); omega
  have hlen : (x :: ws).length ≤ 100001 := by rw [← hx]; have := cutAt_len (c := 32) s; omega
  rw [hx] at WO
  have LR : layerR s = match allB ws with
      | none => none
      | some ns => match kindR x with
        | none => none
        | some k => if fitsK k ns = true then some (setAll (LayF.kind0 k) (placesK k) ns) else none := by
    unfold layerR; rw [hx]; rfl
  obtain ⟨O, hO⟩ : ∃ O, layerR s = O := ⟨_, rfl⟩
  rw [hO] at LR ⊢
  have LRH := Lib.hid LR
  have HM := Lib.hid hmem
  obtain ⟨S, hS⟩ : ∃ S, ba s = S := ⟨_, rfl⟩
  rw [hS] at WO ⊢
  have BN := Lib.hid (Blk.new w 105 (layA LayF.zero (.slice none 0 0)))
  clear hS hO LR hmem hx
  go_enter Try.func90, Try.ntmps90
  go_wp2_with fail
  refine (WO.out _).mono ?_
  rintro e v1 ⟨l1, rfl, x1, own⟩
  obtain ⟨a1, c1, rfl⟩ := own_form0 own
  have RV := RowV.of_owns own
  obtain ⟨g, o, rfl, hn, hnc, hcm, g0, RT⟩ := RV.tail
  have hwl0 : ws.length ≤ 100000 := by rw [List.length_cons] at hlen; omega
  have AL := Lib.hid (allR_any RT (fun y hy => HM.out y (by simp [hy])) hwl0)
  have AL0 := Lib.hid (fun (h : c1 = 1) => allR_any (v := .slice (some ⟨g, o, none⟩) ws.length 0) (L := ws) (w := v1) (by
    have h0 : ws = [] := by
      apply List.eq_nil_of_length_eq_zero
      have h1 := hnc
      rw [List.length_cons] at h1
      omega
    subst h0
    exact ⟨_, _, rfl, Nat.zero_le _, by omega, fun h => absurd rfl h⟩) (fun y hy => HM.out y (by simp [hy])) hwl0)
  have BD := Lib.hid (BN.out.ext x1)
  have XW := Lib.hid (show Ext w v1 from (by repeat (first | with_reducible exact Ext.refl _ | with_reducible apply Ext.drew | with_reducible apply Ext.drewN | with_reducible apply Ext.alloc | ((with_reducible refine Ext.setCell ?_ ?_ _); rotate_left; focus (first | (simp; done) | (simp; omega) | omega)) | with_reducible refine Ext.tr ?_ x1 | with_reducible refine Ext.tr ?_ x2 | with_reducible refine Ext.tr ?_ x5 | with_reducible refine Ext.tr ?_ x6 | with_reducible refine Ext.tr ?_ hx | with_reducible refine Ext.tr ?_ hext | with_reducible assumption)))
  have hwl : (x :: ws).length = ws.length + 1 := rfl
  rw [List.length_map] at AL
  have hcz : ((ws.length + 1 : Nat) : Int) ≤ (c1 : Int) := by have h := hnc; rw [List.length_cons] at h; omega
  obtain ⟨X, hX, -, -, -, LX⟩ := str_of x
  replace g0 : v1.cell? ⟨g, o, none⟩ = some (.string (ba x)) := g0
  rw [hX] at g0
  have zg := cell_lt g0
  simp only at zg
  rw [hwl]
  clear own RV RT WO BN hn hnc hcm hX
  go_upto_region 2 with (fail)
  go_cut [5, 6] (fun s5 s6 wx => ∃ v2 iv ok, v2 = wx ∧ s5 = iv ∧ s6 = .bool ok ∧ Ext v1 v2 ∧ allRes v1.heap.size v2 iv ok (allB ws))
  case first =>
    by_cases hc1 : c1 = 1
    · have AL1 := Lib.hid (AL0.out hc1)
      clear AL AL0
      subst hc1
      go_wp2_with fail
      refine AL1.out.mono ?_
      rintro e v2 ⟨iv, ok, rfl, x2, res⟩
      clear AL1
      go_wp2_with fail
      go_meet
      exact ⟨_, _, _, rfl, rfl, rfl, x2, res⟩
    · clear AL0
      go_wp2_with fail
      refine AL.out.mono ?_
      rintro e v2 ⟨iv, ok, rfl, x2, res⟩
      clear AL
      go_wp2_with fail
      go_meet
      exact ⟨_, _, _, rfl, rfl, rfl, x2, res⟩
  obtain ⟨v2, iv, ok, rfl, rfl, rfl, x2, res⟩ := hcut
  clear AL0
  have g1 := x2.cell g0
  have BD2 := Lib.hid (BD.out.ext x2)
  have XW2 := Lib.hid (XW.out.tr x2)
  have zv2 := x2.size
  have zD := BD.out.lt
  clear AL BD XW g0
  cases ha : allB ws with
  | none =>
    rw [ha] at res LRH
    obtain ⟨rfl, rfl⟩ := res
    obtain rfl : O = none := LRH.out
    clear LRH
    obtain ⟨d0, d1, d2, d3, d4, d5, d6, d7, d8, q0, q1, q2, q3, q4, q5, q6, q7, q8⟩ := BD2.out.lay
    go_wp2_with fail
    go_loopw [7] (fun i wr => i = .int .i64 1 ∧ wr = v2) (fun _ _ => 0)
    case atStart => exact ⟨rfl, rfl⟩
    case round =>
      obtain ⟨rfl, hwr⟩ := hrel
      subst hwr
      go_wp2_with fail
      (try rw [Exit.noGoto_ret])
      change bodyPost _ _ _ _ _ _
      rw [oneV_none]
      have hx := XW2.out
      simp [bodyPost, results, Try.results90, go_sem, layA, LayF.zero, *]
      exact (by repeat (first | with_reducible exact Ext.refl _ | with_reducible apply Ext.drew | with_reducible apply Ext.drewN | with_reducible apply Ext.alloc | ((with_reducible refine Ext.setCell ?_ ?_ _); rotate_left; focus (first | (simp; done) | (simp; omega) | omega)) | with_reducible refine Ext.tr ?_ x1 | with_reducible refine Ext.tr ?_ x2 | with_reducible refine Ext.tr ?_ x5 | with_reducible refine Ext.tr ?_ x6 | with_reducible refine Ext.tr ?_ hx | with_reducible refine Ext.tr ?_ hext | with_reducible assumption))
  | some ns =>
    rw [ha] at res LRH
    obtain ⟨rfl, own⟩ := res
    have NL : ns.length ≤ 100000 := by have := allB_len ha; omega
    obtain ⟨ia, ic, rfl⟩ := own_form0 own
    have RN := Lib.hid (show RowV v2 (.slice ia ns.length ic) (natsV ns) from RowV.of_owns own)
    clear own ha
    go_wp2_with fail
    go_loopw [7] (fun i wr => ∃ k : Nat, 1 ≤ k ∧ k ≤ 14 ∧ i = .int .i64 k ∧ (∀ j, 1 ≤ j → j < k → nameB j ≠ x) ∧ Ext v2 wr) (fun i _ => 14 - (intOf i).toNat)
    case atStart => exact ⟨1, by omega, by omega, rfl, fun j h1 h2 => by omega, Ext.refl _⟩
    case round =>
      obtain ⟨k, hk1, hk, rfl, hno, hext⟩ := hrel
      have NO := Lib.hid hno
      have BD3 := Lib.hid (BD2.out.ext hext)
      have g2 := hext.cell g1
      have zw2 := hext.size
      have XW3 := Lib.hid (XW2.out.tr hext)
      have RN3 := Lib.hid (RN.out.ext hext)
      clear hno
      rcases Nat.lt_or_ge k 14 with hlt | hge
      · have kz : (k : Int) ≤ 13 := by omega
        have wk : IntKind.i64.wrap ((k : Int) + 1) = ((k + 1 : Nat) : Int) := by rw [IntKind.wrap_i64]; omega
        have NM := Lib.hid (fun u => nameR_any k (by omega) u)
        obtain ⟨N, hN, -, -, -, LN⟩ := str_of (nameB k)
        rw [hN] at NM
        have SN : (N.toList == X.toList) = decide (nameB k = x) := by
          rw [LN.out, LX.out]
          by_cases e : nameB k = x <;> simp [e]
        have FT := Lib.hid (fun u (y : Ext wr u) => fitsR_any k (by omega) (RN3.out.ext y) NL)
        have KO := Lib.hid (kindR_of hk1 (by omega : k ≤ 13))
        clear hN LN
        by_cases e : nameB k = x
        · rw [decide_eq_true e] at SN
          have LO := Lib.hid (show O = if fitsK k ns = true then some (setAll (LayF.kind0 k) (placesK k) ns) else none by have h := LRH.out; rw [← e, KO.out] at h; exact h)
          clear NO KO LRH e
          go_wp2_with fail
          go_quiet (first | (go_at_call 122; exact q0 (NM.out _)))
          go_wp2_with fail
          refine (FT.out _ (by repeat (first | with_reducible exact Ext.refl _ | with_reducible apply Ext.drew | with_reducible apply Ext.drewN | with_reducible apply Ext.alloc | ((with_reducible refine Ext.setCell ?_ ?_ _); rotate_left; focus (first | (simp; done) | (simp; omega) | omega)) | with_reducible refine Ext.tr ?_ x1 | with_reducible refine Ext.tr ?_ x2 | with_reducible refine Ext.tr ?_ x5 | with_reducible refine Ext.tr ?_ x6 | with_reducible refine Ext.tr ?_ hx | with_reducible refine Ext.tr ?_ hext | with_reducible assumption))).mono ?_
          rintro e v5 ⟨rfl, x5⟩
          have X5 := Lib.hid (show Ext wr v5 from (by repeat (first | with_reducible exact Ext.refl _ | with_reducible apply Ext.drew | with_reducible apply Ext.drewN | with_reducible apply Ext.alloc | ((with_reducible refine Ext.setCell ?_ ?_ _); rotate_left; focus (first | (simp; done) | (simp; omega) | omega)) | with_reducible refine Ext.tr ?_ x1 | with_reducible refine Ext.tr ?_ x2 | with_reducible refine Ext.tr ?_ x5 | with_reducible refine Ext.tr ?_ x6 | with_reducible refine Ext.tr ?_ hx | with_reducible refine Ext.tr ?_ hext | with_reducible assumption)))
          obtain ⟨d0, d1, d2, d3, d4, d5, d6, d7, d8, q0, q1, q2, q3, q4, q5, q6, q7, q8⟩ := (BD3.out.ext X5.out).lay
          have z5 := X5.out.size
          have hx := XW3.out.tr X5.out
          clear FT NM BD3 g2
          cases hf : fitsK k ns with
          | false =>
            rw [hf] at LO
            obtain rfl : O = none := LO.out
            clear LO
            go_wp2_with fail
            (try rw [Exit.noGoto_ret])
            change bodyPost _ _ _ _ _ _
            rw [oneV_none]
            simp [bodyPost, results, Try.results90, go_sem, layA, LayF.zero, *]
            exact (by repeat (first | with_reducible exact Ext.refl _ | with_reducible apply Ext.drew | with_reducible apply Ext.drewN | with_reducible apply Ext.alloc | ((with_reducible refine Ext.setCell ?_ ?_ _); rotate_left; focus (first | (simp; done) | (simp; omega) | omega)) | with_reducible refine Ext.tr ?_ x1 | with_reducible refine Ext.tr ?_ x2 | with_reducible refine Ext.tr ?_ x5 | with_reducible refine Ext.tr ?_ x6 | with_reducible refine Ext.tr ?_ hx | with_reducible refine Ext.tr ?_ hext | with_reducible assumption))
          | true =>
            rw [hf, if_pos rfl] at LO
            obtain rfl := LO.out
            have hl : ns.length = (placesK k).length := by unfold fitsK at hf; simp at hf; exact hf.1
            have MD := Lib.hid (madeR_any k hk1 (by omega) (RN3.out.ext X5.out) hl)
            clear hl
            obtain ⟨F, hF⟩ : ∃ F, setAll (LayF.kind0 k) (placesK k) ns = F := ⟨_, rfl⟩
            rw [hF] at MD
            simp only [layA] at MD
            have HF := Lib.hid hF
            clear hF
            clear LO hf
            go_wp2_with fail
            refine MD.out.mono ?_
            rintro e v6 ⟨rfl, x6⟩
            have k0 := x6.cell d0
            have k1 := x6.cell d1
            have k2 := x6.cell d2
            have k3 := x6.cell d3
            have k4 := x6.cell d4
            have k5 := x6.cell d5
            have k6 := x6.cell d6
            have k7 := x6.cell d7
            have k8 := x6.cell d8
            have r0 := x6.frozen d0 q0
            have r1 := x6.frozen d1 q1
            have r2 := x6.frozen d2 q2
            have r3 := x6.frozen d3 q3
            have r4 := x6.frozen d4 q4
            have r5 := x6.frozen d5 q5
            have r6 := x6.frozen d6 q6
            have r7 := x6.frozen d7 q7
            have r8 := x6.frozen d8 q8
            clear d0 d1 d2 d3 d4 d5 d6 d7 d8 q0 q1 q2 q3 q4 q5 q6 q7 q8 MD
            go_wp2_with fail
            (try rw [Exit.noGoto_ret])
            change bodyPost _ _ _ _ _ _
            simp [bodyPost, results, Try.results90, go_sem, *]
            exact ⟨by rw [HF.out]; rfl, (by repeat (first | with_reducible exact Ext.refl _ | with_reducible apply Ext.drew | with_reducible apply Ext.drewN | with_reducible apply Ext.alloc | ((with_reducible refine Ext.setCell ?_ ?_ _); rotate_left; focus (first | (simp; done) | (simp; omega) | omega)) | with_reducible refine Ext.tr ?_ x1 | with_reducible refine Ext.tr ?_ x2 | with_reducible refine Ext.tr ?_ x5 | with_reducible refine Ext.tr ?_ x6 | with_reducible refine Ext.tr ?_ hx | with_reducible refine Ext.tr ?_ hext | with_reducible assumption))⟩
        · rw [decide_eq_false e] at SN
          have NO2 := Lib.hid (show ∀ j, 1 ≤ j → j < k + 1 → nameB j ≠ x from fun j h1 h2 => by
            rcases Nat.lt_succ_iff_lt_or_eq.1 h2 with h' | rfl
            · exact NO.out j h1 h'
            · exact e)
          clear NO KO e FT BD3
          go_wp2_with fail
          go_quiet (first | (go_at_call 122; exact q0 (NM.out _)))
          go_wp2_with fail
          exact ⟨⟨k + 1, by omega, by omega, by go_num, NO2.out, (by repeat (first | with_reducible exact Ext.refl _ | with_reducible apply Ext.drew | with_reducible apply Ext.drewN | with_reducible apply Ext.alloc | ((with_reducible refine Ext.setCell ?_ ?_ _); rotate_left; focus (first | (simp; done) | (simp; omega) | omega)) | with_reducible refine Ext.tr ?_ x1 | with_reducible refine Ext.tr ?_ x2 | with_reducible refine Ext.tr ?_ x5 | with_reducible refine Ext.tr ?_ x6 | with_reducible refine Ext.tr ?_ hx | with_reducible refine Ext.tr ?_ hext | with_reducible assumption))⟩, by simp [intOf]; omega⟩
      · obtain rfl : k = 14 := by omega
        obtain rfl : O = none := by have h := LRH.out; rw [kindR_no (fun j h1 h2 => NO.out j h1 (by omega))] at h; exact h
        obtain ⟨d0, d1, d2, d3, d4, d5, d6, d7, d8, q0, q1, q2, q3, q4, q5, q6, q7, q8⟩ := BD3.out.lay
        have hx := XW3.out
        clear LRH NO RN3 BD3
        go_wp2_with fail
        (try rw [Exit.noGoto_ret])
        change bodyPost _ _ _ _ _ _
        rw [oneV_none]
        simp [bodyPost, results, Try.results90, go_sem, layA, LayF.zero, *]
        exact (by repeat (first | with_reducible exact Ext.refl _ | with_reducible apply Ext.drew | with_reducible apply Ext.drewN | with_reducible apply Ext.alloc | ((with_reducible refine Ext.setCell ?_ ?_ _); rotate_left; focus (first | (simp; done) | (simp; omega) | omega)) | with_reducible refine Ext.tr ?_ x1 | with_reducible refine Ext.tr ?_ x2 | with_reducible refine Ext.tr ?_ x5 | with_reducible refine Ext.tr ?_ x6 | with_reducible refine Ext.tr ?_ hx | with_reducible refine Ext.tr ?_ hext | with_reducible assumption))
end Go.Proofs.Ytkdfenkpfffcaaa
