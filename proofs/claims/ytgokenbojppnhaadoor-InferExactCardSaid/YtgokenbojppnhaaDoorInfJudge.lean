/- (*infer.step).does: of any layer that may be. slices.ContainsFunc of parameters, by judge's own question. (*infer.step).judge. -/
import Derived.Test.YtgokenbojppnhaaDoorInfDoes1
import Derived.Test.YtgokenbojppnhaaDoorInfDoes2
import Derived.Test.YtgokenbojppnhaaDoorInfDoes3
import Derived.Test.YtgokenbojppnhaaDoorInfDoes4
import Derived.Test.YtgokenbojppnhaaDoorInfDoes5
import Derived.Test.YtgokenbojppnhaaDoorInfDoes6
import Derived.Test.YtgokenbojppnhaaDoorInfDoes0
namespace Go.Proofs.YtgokenbojppnhaaDoor
open Go.RowKit
/-- What does asks of a layer's numbers. -/
structure LayOk (f : LayF) : Prop where
  conv : f.kind = 2 → WinOk f ∧ 1 ≤ f.inn ∧ f.inn ≤ 4096 ∧ 1 ≤ f.out ∧ f.out ≤ 4096
  pool : f.kind = 8 ∨ f.kind = 9 → WinOk f
  att : f.kind = 12 → 1 ≤ f.heads ∧ 0 ≤ f.inn
theorem does_any {B S : Nat} {w : World} {f : LayF} {ba' ia : Option Addr} {bn bc ic : Nat} {first : Bool} {nm : Bs} {s : List Int} (h : DoesAt B w S f (.slice ba' bn bc) (.slice ia s.length ic) first nm s) (hf : LayOk f) :
    Calls Tryd.prog 67 #[.pointer (some ⟨S, 0, none⟩)] w fun e w' => DoesP B w S f (.slice ba' bn bc) (.slice ia s.length ic) first nm e w' (doesS f s first nm) := by
  obtain ⟨K, I, O, Z, T, P, C, H⟩ := f
  unfold doesS
  by_cases h1 : K = 1
  · subst h1
    simp only [if_true]
    have hd := (fullS_dims h.dim).1
    match s, h, hd with
    | [], h, _ => rw [if_neg (by simp)]; exact does_lin_0 h
    | [a], h, _ =>
      by_cases hi : a = I
      · subst hi
        rw [if_pos ⟨by simp, by simp, by simp [lastI]⟩]
        exact does_lin_1 h
      · rw [if_neg (by simp [lastI]; exact hi)]
        exact does_lin_1n h hi
    | [a, a2], h, _ =>
      by_cases hi : a2 = I
      · subst hi
        rw [if_pos ⟨by simp, by simp, by simp [lastI]⟩]
        exact does_lin_2 h
      · rw [if_neg (by simp [lastI]; exact hi)]
        exact does_lin_2n h hi
    | [a, a2, a3], h, _ => rw [if_neg (by simp)]; exact does_lin_3 h
    | _ :: _ :: _ :: _ :: _, h, hd => simp at hd
  rw [if_neg h1]
  by_cases h2 : K = 2
  · subst h2
    simp only [if_true]
    obtain ⟨hw, i1, i2, o1, o2⟩ := hf.conv rfl
    cases hI : imageS ⟨2, I, O, Z, T, P, C, H⟩ s with
    | none => exact does_conv_n h hw hI
    | some p =>
      by_cases hi : s.getD 0 0 = I
      · simp only [hi, if_true]
        exact does_conv h hw hI hi i1 i2 o1 o2
      · simp only [hi, if_false]
        exact does_conv_i h hw hI hi
  rw [if_neg h2]
  by_cases h8 : K = 8
  · subst h8
    simp only [true_or, if_true]
    cases hI : imageS ⟨8, I, O, Z, T, P, C, H⟩ s with
    | none => exact does_pool8_n h (hf.pool (.inl rfl)) hI
    | some p => exact does_pool8 h (hf.pool (.inl rfl)) hI
  by_cases h9 : K = 9
  · subst h9
    simp only [or_true, if_true]
    cases hI : imageS ⟨9, I, O, Z, T, P, C, H⟩ s with
    | none => exact does_pool9_n h (hf.pool (.inr rfl)) hI
    | some p => exact does_pool9 h (hf.pool (.inr rfl)) hI
  rw [if_neg (by simp; exact ⟨h8, h9⟩)]
  by_cases h10 : K = 10
  · subst h10
    simp only [if_true]
    exact does_flatten h
  rw [if_neg h10]
  by_cases h11 : K = 11
  · subst h11
    simp only [if_true]
    cases first with
    | false => rw [if_neg (by simp)]; exact does_emb_n h rfl
    | true =>
      by_cases hl : s.length = 1
      · obtain ⟨a, rfl⟩ : ∃ a, s = [a] := by
          match s, hl with
          | [a], _ => exact ⟨a, rfl⟩
        rw [if_pos ⟨rfl, rfl⟩]
        exact does_emb h rfl
      · rw [if_neg (by simp; exact hl)]
        exact does_emb_l h rfl hl
  rw [if_neg h11]
  by_cases h12 : K = 12
  · subst h12
    simp only [if_true]
    obtain ⟨hh, hi⟩ := hf.att rfl
    by_cases hl : s.length = 2
    · obtain ⟨a, a2, rfl⟩ : ∃ a a2, s = [a, a2] := by
        match s, hl with
        | [a, a2], _ => exact ⟨a, a2, rfl⟩
      by_cases ha : a2 = I
      · subst ha
        by_cases hm : a2 % H = 0
        · rw [if_pos ⟨rfl, rfl, hm⟩]
          exact does_att h hh hi hm
        · rw [if_neg (fun h => hm h.2.2)]
          exact does_att_h h hh hi hm
      · rw [if_neg (fun h => ha h.2.1)]
        exact does_att_i h ha
    · rw [if_neg (fun h => hl h.1)]
      exact does_att_l h hl
  rw [if_neg h12]
  exact does_other h h1 h2 h8 h9 h10 h11 h12
end Go.Proofs.YtgokenbojppnhaaDoor
namespace Go.Proofs.YtgokenbojppnhaaDoor
open Go.RowKit
attribute [local go_sem ↓] Go.wp_at_zero Go.wp_at_succ
theorem own_some {w : World} {base : Nat} {e : TypeId} {size : Nat} {v : Value} {n : Nat} {xs : List Value} (h : w.ownsRow base e size v n xs) (hn : 0 < n) : ∃ g c, v = .slice (some ⟨g, 0, none⟩) n c := by
  rcases h.2 with ⟨rfl, h0⟩ | ⟨g, cap, _, rfl, _⟩
  · omega
  · exact ⟨g, cap, rfl⟩
theorem parCells_at : ∀ (qs : List (ParamP × Value)) (i : Nat) (h : i < qs.length) (j : Nat), j < 4 → (parCells qs)[i * 4 + j]? = (parA qs[i].1 qs[i].2)[j]?
  | [], i, h, _, _ => by simp at h
  | p :: ps, 0, _, j, hj => by
    simp only [parCells, List.flatMap_cons, Nat.zero_mul, Nat.zero_add, List.getElem_cons_zero]
    rw [List.getElem?_append_left (by simpa [parA] using hj), Array.getElem?_toList]
  | p :: ps, i + 1, h, j, hj => by
    have ih := parCells_at ps i (by simpa using h) j hj
    simp only [parCells, List.flatMap_cons, List.getElem_cons_succ] at ih ⊢
    rw [List.getElem?_append_right (by simp [parA]; omega)]
    rw [← ih]
    congr 1
    simp [parA]; omega
/-- A parameter's cells. -/
theorem ParsAt.at {base : Nat} {w : World} {v : Value} {ps : List ParamP} (h : ParsAt base w v ps) {k : Nat} (hk : k < ps.length) : ∃ g c sa sc, v = .slice (some ⟨g, 0, none⟩) ps.length c ∧ w.cell? ⟨g, k * 4, none⟩ = some (.string (ba ps[k].name)) ∧ w.cell? ⟨g, k * 4 + 1, none⟩ = some (.slice sa ps[k].shape.length sc) ∧ w.cell? ⟨g, k * 4 + 2, none⟩ = some (.int .i64 ps[k].inn) ∧ w.cell? ⟨g, k * 4 + 3, none⟩ = some (.int .i64 ps[k].out) ∧ w.ownsRow base 3 1 (.slice sa ps[k].shape.length sc) ps[k].shape.length (ps[k].shape.map (Value.int .i64)) := by
  obtain ⟨qs, hq, hown, hrest⟩ := h
  obtain ⟨g, c, rfl⟩ := own_some hown (by omega)
  have hl : qs.length = ps.length := by rw [← hq]; simp
  have hk' : k < qs.length := by omega
  have hp : qs[k].1 = ps[k] := by subst hq; simp
  have hr := hrest qs[k] (List.getElem_mem hk')
  rw [hp] at hr
  obtain ⟨sa, sc, hs⟩ := own_form2 hr
  have hc : ∀ j, j < 4 → w.cell? ⟨g, k * 4 + j, none⟩ = (parA ps[k] (.slice sa ps[k].shape.length sc))[j]? := fun j hj => by
    have h1 := hown.cellAt (k * 4 + j) (by omega)
    rw [h1, parCells_at qs k hk' j hj, hs, hp]
  rw [hs] at hr
  exact ⟨g, c, sa, sc, rfl, hc 0 (by omega), hc 1 (by omega), hc 2 (by omega), hc 3 (by omega), hr⟩
theorem judge1_any {nm : ByteArray} {sv : Value} {sh : List Int} {fi fo : Int} {w : World} (h : Row .i64 w sv sh) :
    Calls Tryd.prog 69 #[.agg #[.string nm, sv, .int .i64 fi, .int .i64 fo]] w fun e w' => e = .returned (.bool (!shp sh)) ∧ Ext w w' := by
  obtain ⟨a, c, rfl, -⟩ := h.form'
  have H := Lib.hid h
  clear h
  go_enter Tryd.func69, Tryd.ntmps69
  go_wp2_with fail
  refine (sgood_any (H.out.ext (by repeat (first | with_reducible exact Ext.refl _ | with_reducible apply Ext.drew | with_reducible apply Ext.drewN | with_reducible apply Ext.alloc | ((with_reducible refine Ext.setCell ?_ ?_ _); rotate_left; focus (first | (simp; done) | (simp; omega) | omega)) | with_reducible refine Ext.tr ?_ x1 | with_reducible refine Ext.tr ?_ x2 | with_reducible refine Ext.tr ?_ x3 | with_reducible refine Ext.tr ?_ hext | with_reducible assumption)))).mono ?_
  rintro e w' ⟨rfl, rfl⟩
  cases hb : shp sh
  · have HB := Lib.hid hb
    clear hb
    go_wp2
    go_ret
    exact ⟨by rw [HB.out]; rfl, (by repeat (first | with_reducible exact Ext.refl _ | with_reducible apply Ext.drew | with_reducible apply Ext.drewN | with_reducible apply Ext.alloc | ((with_reducible refine Ext.setCell ?_ ?_ _); rotate_left; focus (first | (simp; done) | (simp; omega) | omega)) | with_reducible refine Ext.tr ?_ x1 | with_reducible refine Ext.tr ?_ x2 | with_reducible refine Ext.tr ?_ x3 | with_reducible refine Ext.tr ?_ hext | with_reducible assumption))⟩
  · have HB := Lib.hid hb
    clear hb
    go_wp2
    go_ret
    exact ⟨by rw [HB.out]; rfl, (by repeat (first | with_reducible exact Ext.refl _ | with_reducible apply Ext.drew | with_reducible apply Ext.drewN | with_reducible apply Ext.alloc | ((with_reducible refine Ext.setCell ?_ ?_ _); rotate_left; focus (first | (simp; done) | (simp; omega) | omega)) | with_reducible refine Ext.tr ?_ x1 | with_reducible refine Ext.tr ?_ x2 | with_reducible refine Ext.tr ?_ x3 | with_reducible refine Ext.tr ?_ hext | with_reducible assumption))⟩
/-- Where the first of the parameters from k on stands whose shape may not be; -1: nowhere. -/
theorem index_bad {base : Nat} {v : Value} {ps : List ParamP} {w : World} (h : ParsAt base w v ps) (hn : ps.length ≤ 1000) :
    Calls Tryd.prog 85 #[v, .func (.func 69) #[] #[]] w fun e w' => ∃ i : Int, e = .returned (.int .i64 i) ∧ Ext w w' ∧ ((0 ≤ i) ↔ (ps.all (fun p => shp p.shape) = false)) := by
  obtain ⟨a, c, rfl⟩ := h.form
  have HP := Lib.hid h
  clear h
  go_enter Tryd.func85, Tryd.ntmps85
  go_wp2_with fail
  go_loopw [8] (fun i wr => ∃ k : Nat, k ≤ ps.length ∧ i = .int .i64 k ∧ Ext w wr ∧ ∀ j (h : j < ps.length), j < k → shp ps[j].shape = true) (fun i _ => ps.length - (intOf i).toNat)
  case atStart => exact ⟨0, Nat.zero_le _, rfl, Ext.refl _, fun j _ hj => by omega⟩
  case round =>
    obtain ⟨k, hk, rfl, hext, hsh⟩ := hrel
    obtain ⟨wo, rfl⟩ : ∃ wo : World, wo = wr := ⟨_, rfl⟩
    have HS := Lib.hid hsh
    clear hsh
    rcases Nat.lt_or_ge k ps.length with hlt | hge
    · obtain ⟨g, c', sa, sc, e, k0, k1, k2, k3, ho⟩ := (HP.out.ext hext).at hlt
      cases e
      have J := Lib.hid (fun (W : World) (x : Ext wo W) => judge1_any (nm := ba ps[k].name) (fi := ps[k].inn) (fo := ps[k].out) ((Row.of_owns ho).1.ext x))
      have hlz : (k : Int) < (ps.length : Int) := by omega
      have HX := Lib.hid hext
      generalize ba ps[k].name = N at k0 J
      cases hb : shp ps[k].shape
      · have HB := Lib.hid hb
        rw [hb] at J
        clear hb ho hext
        generalize ps[k].shape.length = q at k1 J
        generalize ps[k].inn = x at k2 J
        generalize ps[k].out = y at k3 J
        go_wp2_with fail
        refine (J.out _ (Ext.refl _)).mono ?_
        rintro e w1 ⟨rfl, x1⟩
        go_wp2
        go_ret
        refine ⟨_, rfl, HX.out.tr x1, fun _ => ?_, fun _ => by omega⟩
        rw [List.all_eq_false]
        exact ⟨ps[k], List.getElem_mem hlt, by rw [HB.out]; simp⟩
      · have NEW : Hid (∀ j (h : j < ps.length), j < k + 1 → shp ps[j].shape = true) := Lib.hid (fun j h hj => by
          rcases Nat.lt_succ_iff_lt_or_eq.1 hj with h1 | rfl
          · exact HS.out j h h1
          · exact hb)
        rw [hb] at J
        clear hb ho hext HS
        generalize ps[k].shape.length = q at k1 J
        generalize ps[k].inn = x at k2 J
        generalize ps[k].out = y at k3 J
        go_wp2_with fail
        refine (J.out _ (Ext.refl _)).mono ?_
        rintro e w1 ⟨rfl, x1⟩
        go_wp2
        go_roundw
        case rel => exact ⟨k + 1, by omega, by go_num, HX.out.tr x1, NEW.out⟩
        case measure => simp [intOf]; omega
    · have HX := Lib.hid hext
      clear hext
      go_wp2
      go_ret
      refine ⟨_, rfl, HX.out, fun h => by omega, fun h => ?_⟩
      rw [List.all_eq_false] at h
      obtain ⟨p, hp, h⟩ := h
      obtain ⟨j, hj, rfl⟩ := List.getElem_of_mem hp
      exact absurd (HS.out j hj (by omega)) h
theorem contains_bad {base : Nat} {v : Value} {ps : List ParamP} {w : World} (h : ParsAt base w v ps) (hn : ps.length ≤ 1000) :
    Calls Tryd.prog 68 #[v, .func (.func 69) #[] #[]] w fun e w' => e = .returned (.bool (!(ps.all (fun p => shp p.shape)))) ∧ Ext w w' := by
  have J := Lib.hid (index_bad h hn)
  clear h
  go_enter Tryd.func68, Tryd.ntmps68
  go_wp2_with fail
  refine J.out.mono ?_
  rintro e w1 ⟨i, rfl, x1, hi⟩
  have HI := Lib.hid hi
  clear hi
  by_cases h0 : 0 ≤ i
  · have E := Lib.hid (HI.out.1 h0)
    have t : decide (0 ≤ i) = true := by simpa using h0
    go_wp2
    go_ret
    exact ⟨by rw [E.out]; rfl, x1⟩
  · have E : Hid (ps.all (fun p => shp p.shape) = true) := Lib.hid (by
      cases hb : ps.all (fun p => shp p.shape)
      · exact absurd (HI.out.2 hb) h0
      · rfl)
    have t : decide (0 ≤ i) = false := by simpa using h0
    go_wp2
    go_ret
    exact ⟨by rw [E.out]; rfl, x1⟩
end Go.Proofs.YtgokenbojppnhaaDoor
namespace Go.Proofs.YtgokenbojppnhaaDoor
open Go.RowKit
attribute [local go_sem ↓] Go.wp_at_zero Go.wp_at_succ
/-- What judge promises. -/
def JudgeP (B : Nat) (w : World) (S : Nat) (f : LayF) (bv iv : Value) (first : Bool) (nm : Bs) (e : Ending) (w' : World) : Told → Prop
  | .bad x => e = .returned (.int .i64 x) ∧ GB w w' S ∧ ∃ oa on oc pa pn pc, Blk w' S 71 (stepA f bv iv (.slice oa on oc) (.slice pa pn pc) first (ba nm) 0 false)
  | .ok o ps => e = .returned (.int .i64 0) ∧ GB w w' S ∧ ∃ oa oc pa pc, Blk w' S 71 (stepA f bv iv (.slice oa o.length oc) (.slice pa ps.length pc) first (ba nm) 0 false) ∧ RowS B w' (.slice oa o.length oc) o ∧ ParsAt w.heap.size w' (.slice pa ps.length pc) ps
set_option maxHeartbeats 2000000 in
set_option maxRecDepth 100000 in
theorem judge_any {B S : Nat} {w : World} {f : LayF} {ba' ia : Option Addr} {bn bc ic : Nat} {first : Bool} {nm : Bs} {s : List Int} (h : DoesAt B w S f (.slice ba' bn bc) (.slice ia s.length ic) first nm s) (hf : LayOk f) (hsm : ∀ o ps, doesS f s first nm = some (o, ps) → o.length ≤ 1000 ∧ ps.length ≤ 1000) :
    Calls Tryd.prog 57 #[.pointer (some ⟨S, 0, none⟩)] w fun e w' => JudgeP B w S f (.slice ba' bn bc) (.slice ia s.length ic) first nm e w' (judgeS f s first nm) := by
  have D := Lib.hid (does_any h hf)
  have HSM := Lib.hid hsm
  have zS := h.blk.lt
  clear h hf hsm
  cases hd : doesS f s first nm with
  | none =>
    rw [hd] at D
    have HJ : Hid (judgeS f s first nm = .bad 2) := Lib.hid (by unfold judgeS; rw [hd])
    clear hd HSM
    go_enter Tryd.func57, Tryd.ntmps57
    go_wp2_with fail
    refine D.out.mono ?_
    rintro e w1 ⟨rfl, g1, b1⟩
    have G1 := Lib.hid g1
    have B1 := Lib.hid b1
    clear g1 b1
    go_wp2
    go_ret
    rw [HJ.out]
    exact ⟨rfl, G1.out, _, _, _, _, _, _, B1.out⟩
  | some op =>
    obtain ⟨o, ps⟩ := op
    rw [hd] at D
    obtain ⟨l1, l2⟩ := HSM.out o ps hd
    have HD := Lib.hid hd
    clear hd HSM
    go_enter Tryd.func57, Tryd.ntmps57
    go_wp2_with fail
    refine D.out.mono ?_
    rintro e w1 ⟨rfl, g1, oa, oc, pa, pc, b1, r1, p1⟩
    have k10 := b1.cells 10 (show _ = some (.slice oa o.length oc) from rfl)
    have k11 := b1.cells 11 (show _ = some (.slice pa ps.length pc) from rfl)
    have G1 := Lib.hid g1
    have B1 := Lib.hid b1
    have R1 := Lib.hid r1
    have P1 := Lib.hid p1
    clear g1 b1 r1 p1 D
    go_wp2_with fail
    refine (fits_any R1.out.1 (by omega)).mono ?_
    rintro e w2 ⟨rfl, x2⟩
    have j11 := x2.cell k11
    have X2 := Lib.hid x2
    clear k10 k11
    cases hfull : fullS o with
    | false =>
      have HJ : Hid (judgeS f s first nm = .bad 5) := Lib.hid (by unfold judgeS; rw [HD.out]; simp [hfull])
      clear hfull
      go_wp2
      go_ret
      rw [HJ.out]
      exact ⟨rfl, G1.out.ext X2.out, _, _, _, _, _, _, B1.out.ext X2.out⟩
    | true =>
      have HF := Lib.hid hfull
      clear hfull
      go_wp2_with fail
      refine (contains_bad (P1.out.ext X2.out) (by omega)).mono ?_
      rintro e w3 ⟨rfl, x3⟩
      have X3 := Lib.hid (X2.out.tr x3)
      clear x2 x3 j11
      cases hall : ps.all (fun p => shp p.shape) with
      | false =>
        have HJ : Hid (judgeS f s first nm = .bad 5) := Lib.hid (by unfold judgeS; rw [HD.out]; simp only [HF.out, hall]; rfl)
        clear hall
        go_wp2
        go_ret
        rw [HJ.out]
        exact ⟨rfl, G1.out.ext X3.out, _, _, _, _, _, _, B1.out.ext X3.out⟩
      | true =>
        have HJ : Hid (judgeS f s first nm = .ok o ps) := Lib.hid (by unfold judgeS; rw [HD.out]; simp only [HF.out, hall]; rfl)
        clear hall
        go_wp2
        go_ret
        rw [HJ.out]
        exact ⟨rfl, G1.out.ext X3.out, oa, oc, pa, pc, B1.out.ext X3.out, R1.out.ext X3.out, P1.out.ext X3.out⟩
end Go.Proofs.YtgokenbojppnhaaDoor
