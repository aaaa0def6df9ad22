/- whole: Add of one sign, Right of what is not below 0, Even, Len. slices.Clone of whole.Nat. whole: right, Right of what is not below 0. whole: schoolbook, mul of fewer than 24 limbs. -/
import Derived.Test.YtkegefnpmijfiaaGreatQW1
import Derived.Lib.SliceRun
import Derived.BigRegion
namespace Go.Proofs.YtkegefnpmijfiaaGreat
open Go.RowKit
set_option maxHeartbeats 2000000 in
theorem wAdd_ref {u v : Value} {x y : Int} {L : Nat} {w : World} (hu : IntAt w u x L) (hv : IntAt w v y L) (hL : L ≤ 400000) (hs : decide (x < 0) = decide (y < 0)) :
    Calls Tryz.prog 166 #[u, v] w fun e w' => ∃ q, e = .returned q ∧ Ext w w' ∧ IntAt w' q (x + y) (L + 1) ∧ NewInt w q := by
  obtain ⟨m1, rfl, hm1⟩ := hu.is
  obtain ⟨m2, rfl, hm2⟩ := hv.is
  obtain ⟨a1, k1, c1, rfl, -⟩ := hm1.form
  obtain ⟨a2, k2, c2, rfl, -⟩ := hm2.form
  have H1 := Lib.hid hm1
  have H2 := Lib.hid hm2
  clear hu hv hm1 hm2
  have e1 : (decide (x < 0) && decide (0 < mag x + mag y)) = decide (x + y < 0) := by
    unfold mag; by_cases h : x < 0 <;> by_cases k : y < 0 <;> simp [h, k] at hs ⊢ <;> omega
  have e2 : mag (x + y) = mag x + mag y := by
    unfold mag; by_cases h : x < 0 <;> by_cases k : y < 0 <;> simp [h, k] at hs ⊢ <;> (try split) <;> omega
  have E1 := Lib.hid e1
  have E2 := Lib.hid e2
  have sb : (decide (x < 0) == decide (y < 0)) = true := by rw [beq_iff_eq]; exact hs
  clear e1 e2 hs
  go_enter Tryz.func166, Tryz.ntmps166
  go_wp2_with fail
  go_region_held3 (fun w' => w'.cell? ⟨w.heap.size, 0, none⟩ = some (.bool (decide (x < 0))) ∧ w'.cell? ⟨w.heap.size, 1, none⟩ = some (.slice a1 k1 c1) ∧ w'.cell? ⟨w.heap.size + 1, 0, none⟩ = some (.bool (decide (y < 0))) ∧ w'.cell? ⟨w.heap.size + 1, 1, none⟩ = some (.slice a2 k2 c2) ∧ w.heap.size + 2 < w'.heap.size ∧ Ext w w')
    (refine ⟨?_, ?_, ?_, ?_, ?_, ?_⟩ <;> first | (simp [go_sem, *]; done) | omega | (simp at z1; omega) | (simp at z2; omega) | (simp at z3; omega) | (simp at z4; omega) | exact Ext.q)
    (first
      | ((go_at_call 178; refine (wadd_new (H1.out.ext Ext.q) (H2.out.ext Ext.q) hL).mono ?_; rintro e v1 ⟨q1, rfl, x1, h1⟩; obtain ⟨c1, f1⟩ := x1.rules; have z1 := x1.size; have lq := fun o => c1 (w.heap.size) o (by first | (simp; done) | (simp; omega) | omega); have mq := fun o => f1 (w.heap.size) o (by first | (simp; done) | (simp; omega) | omega); have k1_0_0 := lq 0; have q1_0_0 := mq 0; have k1_0_1 := lq 1; have q1_0_1 := mq 1; clear lq mq; have lq := fun o => c1 (w.heap.size + 1) o (by first | (simp; done) | (simp; omega) | omega); have mq := fun o => f1 (w.heap.size + 1) o (by first | (simp; done) | (simp; omega) | omega); have k1_1_0 := lq 0; have q1_1_0 := mq 0; have k1_1_1 := lq 1; have q1_1_1 := mq 1; clear lq mq; have lq := fun o => c1 (w.heap.size + 2) o (by first | (simp; done) | (simp; omega) | omega); have mq := fun o => f1 (w.heap.size + 2) o (by first | (simp; done) | (simp; omega) | omega); have k1_2_0 := lq 0; have q1_2_0 := mq 0; have k1_2_1 := lq 1; have q1_2_1 := mq 1; clear lq mq; have z1_0 : w.heap.size < v1.heap.size := (by (try simp at z1); omega); have z1_1 : w.heap.size + 1 < v1.heap.size := (by (try simp at z1); omega); have z1_2 : w.heap.size + 2 < v1.heap.size := (by (try simp at z1); omega); (try simp at z1); clear c1 f1; simp [go_sem, *] at k1_0_0 q1_0_0 k1_0_1 q1_0_1 k1_1_0 q1_1_0 k1_1_1 q1_1_1 k1_2_0 q1_2_0 k1_2_1 q1_2_1); obtain ⟨h1, n1⟩ := h1; have HH := Lib.hid h1; obtain ⟨a, k, cap, rfl, -⟩ := h1.form; have HN := Lib.hid n1; clear n1 h1)
      | (go_at_call 176; refine (wOf_raw _ HH.out _).mono ?_; rintro e v2 ⟨rfl, x2⟩; obtain ⟨c2, f2⟩ := x2.rules; have z2 := x2.size; have lq := fun o => c2 (w.heap.size) o (by first | (simp; done) | (simp; omega) | omega); have mq := fun o => f2 (w.heap.size) o (by first | (simp; done) | (simp; omega) | omega); have k2_0_0 := lq 0; have q2_0_0 := mq 0; have k2_0_1 := lq 1; have q2_0_1 := mq 1; clear lq mq; have lq := fun o => c2 (w.heap.size + 1) o (by first | (simp; done) | (simp; omega) | omega); have mq := fun o => f2 (w.heap.size + 1) o (by first | (simp; done) | (simp; omega) | omega); have k2_1_0 := lq 0; have q2_1_0 := mq 0; have k2_1_1 := lq 1; have q2_1_1 := mq 1; clear lq mq; have lq := fun o => c2 (w.heap.size + 2) o (by first | (simp; done) | (simp; omega) | omega); have mq := fun o => f2 (w.heap.size + 2) o (by first | (simp; done) | (simp; omega) | omega); have k2_2_0 := lq 0; have q2_2_0 := mq 0; have k2_2_1 := lq 1; have q2_2_1 := mq 1; clear lq mq; have z2_0 : w.heap.size < v2.heap.size := (by (try simp at z2); omega); have z2_1 : w.heap.size + 1 < v2.heap.size := (by (try simp at z2); omega); have z2_2 : w.heap.size + 2 < v2.heap.size := (by (try simp at z2); omega); (try simp at z2); clear c2 f2; simp [go_sem, *] at k2_0_0 q2_0_0 k2_0_1 q2_0_1 k2_1_0 q2_1_0 k2_1_1 q2_1_1 k2_2_0 q2_2_0 k2_2_1 q2_2_1))
  all_goals
    have O1 : Hid (Off (w.heap.size + 1 + 1) (.slice a k cap)) := Lib.hid (HN.out.off (by simp))
    have NW : Hid (New w (.slice a k cap)) := Lib.hid (fun b hb => by have := HN.out b hb; simp at this; omega)
    go_wp2
    simp [bodyPost, results, Tryz.results166, go_sem, *]
    exact ⟨⟨⟨_, by rw [← E1.out], by rw [E2.out]; exact ((HH.out.ext Ext.q).off O1.out).off O1.out⟩⟩, NewInt.mk NW.out⟩
end Go.Proofs.YtkegefnpmijfiaaGreat
namespace Go.Proofs.YtkegefnpmijfiaaGreat
open Go.RowKit
theorem eql_nil (w : World) (a : Option Addr) (n c n' c' : Nat) : (binOp .eql 141 (.slice a n c) (.slice none n' c')).run Tryz.prog w = .ok (.bool a.isNone) w := Lib.run_eql_slice_nil w _ _ a n c n' c' Tryz.underlying141
set_option maxHeartbeats 2000000 in
set_option maxRecDepth 100000 in
theorem wclone_own {b off c : Nat} {zs : List Int} {w : World} (hR : Row .u64 w (.slice (some ⟨b, off, none⟩) zs.length c) zs) (hl : zs.length ≤ 1000000) (h0 : 0 < zs.length) :
    Calls Tryz.prog 181 #[.slice (some ⟨b, off, none⟩) zs.length c] w fun e w' => ∃ v, e = .returned v ∧ Ext w w' ∧ w'.ownsRow w.heap.size 59 1 v zs.length (zs.map (Value.int .u64)) := by
  obtain ⟨i0, hi0, hz0, hz1, hz2⟩ := info_parts info64
  have q22 := eql_nil
  have A : Hid (∀ j, j < zs.length → w.cell? ⟨b, off + j, none⟩ = some (.int .u64 (zs.getD j 0))) := Lib.hid (fun j hj => by
    obtain ⟨b', o', e, h⟩ := hR.cellAt j hj
    simp at e
    obtain ⟨rfl, rfl⟩ := e
    exact h)
  clear hR
  go_enter Tryz.func181, Tryz.ntmps181
  go_wp2_with (at_builtin; refine wpList_append_own _ rfl _ _ 141 rfl w.heap.size 59 i0 (.int .u64 0) 1 8 Tryz.underlying141 hi0 hz0 hz1 hz2 rfl (by decide) _ _ _ rfl (World.ownsRow_made w #[] 0 (Nat.le_refl _) (Nat.zero_le _) rfl) ⟨b, off, none⟩ zs.length c (zs.map (Value.int .u64)) rfl ?qc1 ?qc2 ?qc3 ?qc4 ?qc5 ?qc6 ?_)
  case qc1 => simp
  case qc2 =>
    intro j u hj
    have hjn : j < zs.length := by
      have := (List.getElem?_eq_some_iff.1 hj).1
      simpa using this
    rw [Addr.add_lit]
    refine Lib.cell?_alloc_some _ ?_
    rw [A.out j hjn]
    have e : (zs.map (Value.int .u64))[j]? = some (Value.int .u64 (zs.getD j 0)) := by simp [List.getD, List.getElem?_eq_getElem hjn]
    rw [e] at hj
    exact hj
  case qc3 => intro u hu; obtain ⟨x, _, rfl⟩ := List.mem_map.1 hu; rfl
  case qc4 => unfold maxLen; omega
  case qc5 => omega
  case qc6 => simp
  intro v' w1 hown hgrow hnil
  go_wp2
  go_ret
  refine ⟨v', rfl, ?_, by simpa using hown⟩
  exact ((Below.refl _ w).alloc (Nat.le_refl _) _).grown hgrow (by simp) (by intro k hk; simp [Value.ownBlock] at hk; omega)
end Go.Proofs.YtkegefnpmijfiaaGreat
namespace Go.Proofs.YtkegefnpmijfiaaGreat
open Go.RowKit
theorem own_form {W : World} {base : Nat} {e : TypeId} {size : Nat} {v : Value} {k : Nat} {xs : List Value} (h : W.ownsRow base e size v (k + 1) xs) : ∃ g cap, v = .slice (some ⟨g, 0, none⟩) (k + 1) cap ∧ base ≤ g ∧ g < W.heap.size := by
  rcases h.2 with ⟨_, h0⟩ | ⟨g, cap, cur, rfl, hb, hg, _⟩
  · omega
  · exact ⟨g, cap, rfl, hb, (Array.getElem?_eq_some_iff.1 hg).1⟩
theorem dn_set (s : Nat) (ds : List Int) (k : Nat) (hk : k < ds.length) : ((dn s ds).take k ++ ds.drop k).set k ((dn s ds).getD k 0) = (dn s ds).take (k + 1) ++ ds.drop (k + 1) := by
  have hl : ((dn s ds).take k).length = k := by rw [List.length_take, dn_length]; omega
  have hk' : k < (dn s ds).length := by rw [dn_length]; exact hk
  rw [List.set_append_right _ _ (by omega), hl, Nat.sub_self, List.drop_eq_getElem_cons hk, List.set_cons_zero, take_succ_getD _ _ hk', List.append_assoc]
  rfl
theorem dn_mid (s : Nat) (ds : List Int) (k j : Nat) (hk : k ≤ j) (hj : j < ds.length) : ((dn s ds).take k ++ ds.drop k).getD j 0 = ds.getD j 0 := by
  have hl : ((dn s ds).take k).length = k := by rw [List.length_take, dn_length]; omega
  rw [List.getD_eq_getElem?_getD, List.getElem?_append_right (by omega), hl, List.getElem?_drop, show k + (j - k) = j by omega, ← List.getD_eq_getElem?_getD]
set_option maxHeartbeats 2000000 in
set_option maxRecDepth 100000 in
theorem wright_new {m : Value} {x n : Int} {L q s : Nat} {w : World} (hX : NatAt w m x L) (hL : L ≤ 1000000) (hqq : q ≤ 1000000) (hs : s < 64) (hn : n = 64 * q + s) :
    Calls Tryz.prog 279 #[m, .int .i64 n] w fun e w' => ∃ v, e = .returned v ∧ Ext w w' ∧ NatAt w' v (x / 2 ^ (64 * q + s)) L ∧ New w v := by
  have n0 : (0 : Int) ≤ n := by omega
  have nq : n.tdiv 64 = (q : Int) := by rw [Int.tdiv_eq_ediv_of_nonneg n0]; omega
  have ns : n.tmod 64 = (s : Int) := by rw [Int.tmod_eq_emod_of_nonneg n0]; omega
  have hlt := hX.lt
  have hnn := hX.nn
  obtain ⟨xs, ⟨ax, capx, rfl, hc1, hc2, hc3⟩, dX, nX, e, lX⟩ := hX.is
  rcases Nat.lt_or_ge q xs.length with hq | hq
  · obtain ⟨b, o, rfl, hc⟩ := hc3 (by intro e; subst e; simp at hq)
    have HV : Hid (val B64 (dn s (xs.drop q)) = x / 2 ^ (64 * q + s)) := Lib.hid (by rw [dn_val hs, dn_up dX rfl (by omega), e])
    have HD := Lib.hid (dn_digs hs (xs.drop q) (fun d hd => dX d (List.mem_of_mem_drop hd)))
    have hR : Row .u64 w (.slice (some ⟨b, o + q, none⟩) (xs.drop q).length (capx - q)) (xs.drop q) := by
      refine ⟨_, capx - q, rfl, by rw [List.length_drop]; omega, by omega, fun _ => ⟨b, o + q, rfl, fun i hi => ?_⟩⟩
      rw [List.length_drop] at hi
      rw [drop_getD, Nat.add_assoc]; exact hc (q + i) (by omega)
    have DD : Hid (Digs B64 (xs.drop q)) := Lib.hid (fun d hd => dX d (List.mem_of_mem_drop hd))
    have CL := Lib.hid (wclone_own hR (by rw [List.length_drop]; omega) (by rw [List.length_drop]; omega))
    have hm : (xs.drop q).length = xs.length - q := List.length_drop
    generalize hds : xs.drop q = ds at *
    rw [hm] at CL
    have HM := Lib.hid hm
    have g1 : ¬ (xs.length : Int) ≤ (q : Int) := by omega
    have g2 : (q : Int) ≤ (xs.length : Int) := by omega
    have g3 : (xs.length : Int) ≤ (capx : Int) := by omega
    have g4 : (q : Int) ≤ (capx : Int) := by omega
    have wq : IntKind.i64.wrap (q : Int) = (q : Int) := by rw [IntKind.wrap_i64]; omega
    clear hX hc hc3 hR hds hm e hlt hnn nX hn
    go_enter Tryz.func279, Tryz.ntmps279
    go_wp2_with fail; refine (CL.out).mono ?_; rintro e v1 ⟨q1, rfl, x1, h1⟩; obtain ⟨c1, f1⟩ := x1.rules; have z1 := x1.size
    have z1' := x1.size
    obtain ⟨m', hm'⟩ : ∃ m', xs.length - q = m' + 1 := ⟨xs.length - q - 1, by omega⟩
    rw [hm'] at h1
    obtain ⟨g, cp, rfl, hg1, hg2⟩ := own_form h1
    have HW := Lib.hid h1
    have lds : ds.length = m' + 1 := by rw [HM.out, hm']
    clear h1 CL c1 f1
    generalize m' + 1 = T at *
    go_wp2_with fail
    go_loopw [19] (fun iv wr => ∃ k : Nat, k ≤ T ∧ iv = .int .i64 k ∧ wr.ownsRow w.heap.size 59 1 (.slice (some ⟨g, 0, none⟩) T cp) T (((dn s ds).take k ++ ds.drop k).map (Value.int .u64)) ∧ Ext w wr) (fun iv _ => T - (intOf iv).toNat)
    case atStart => exact ⟨0, Nat.zero_le _, rfl, by simpa using HW.out, x1⟩
    case round =>
      obtain ⟨k, hk, rfl, hown, hext⟩ := hrel
      rcases Nat.lt_or_ge k T with hx | hge
      · have cz := owns_at hown k (by omega)
        rw [dn_mid _ _ _ _ (Nat.le_refl _) (by omega)] at cz
        have fz := hown.frozenAt k
        obtain ⟨a0, a1⟩ := DD.out.at k (by omega)
        unfold B64 at a1
        have hdn := dn_getD s ds k (by omega)
        have hset := dn_set s ds k (by omega)
        have nx : (k : Int) < (T : Int) := by omega
        have ws' : IntKind.i64.wrap (s : Int) = (s : Int) := by rw [IntKind.wrap_i64]; omega
        rcases Nat.lt_or_ge (k + 1) T with hy | hy
        · have cz1 := owns_at hown (k + 1) (by omega)
          rw [dn_mid _ _ _ _ (by omega) (by omega)] at cz1
          obtain ⟨b0, b1⟩ := DD.out.at (k + 1) (by omega)
          rw [if_pos (by omega), ← (dn_digit hs a0 a1 b0).2.2.2.2.2] at hdn
          rw [hdn] at hset
          have HS := Lib.hid hset
          have HO := Lib.hid hown
          have ny : (k : Int) + 1 < (T : Int) := by omega
          have wk : IntKind.i64.wrap ((k : Int) + 1) = (k : Int) + 1 := by rw [IntKind.wrap_i64]; omega
          have w64' : IntKind.i64.wrap (64 - (s : Int)) = 64 - (s : Int) := by rw [IntKind.wrap_i64]; omega
          clear hdn hset hown
          generalize ds.getD k 0 = a at *
          generalize ds.getD (k + 1) 0 = b' at *
          go_wp2_with fail
          go_region
          go_wp2_with fail
          have R := own_set (own_set HO.out k (a / 2 ^ s)) k (bits .or .u64 (a / 2 ^ s) (IntKind.u64.wrap (b' * 2 ^ (64 - s))))
          rw [List.set_set, HS.out] at R
          exact ⟨⟨k + 1, by omega, by go_num, R, Ext.q⟩, by simp [intOf]; omega⟩
        · rw [if_neg (by omega)] at hdn
          rw [hdn] at hset
          have HS := Lib.hid hset
          have HO := Lib.hid hown
          have ny : ¬ (k : Int) + 1 < (T : Int) := by omega
          clear hdn hset hown
          generalize ds.getD k 0 = a at *
          go_wp2_with fail
          have R := own_set HO.out k (a / 2 ^ s)
          rw [HS.out] at R
          exact ⟨⟨k + 1, by omega, by go_num, R, Ext.q⟩, by simp [intOf]; omega⟩
      · obtain rfl : T = k := by omega
        have hl2 : (dn s ds).length = T := by rw [dn_length]; exact lds
        have hz2 : (dn s ds).take T ++ ds.drop T = dn s ds := by rw [List.take_of_length_le (by omega), List.drop_of_length_le (by omega), List.append_nil]
        rw [hz2] at hown
        have HR2 := Lib.hid (Row.of_owns hown).1
        have HL2 : Hid ((dn s ds).length ≤ L) := Lib.hid (by omega)
        have nx : ¬ (T : Int) < (T : Int) := by omega
        clear hl2 hown hz2 lds hk
        go_wp2_with fail
        refine (wtrim_new HR2.out).mono ?_
        rintro e w' ⟨v4, n3, hcut, rfl, hrow3, rfl, hob⟩
        have HN : Hid (New w v4) := Lib.hid (fun b hb => by rw [hob] at hb; simp [Value.ownBlock] at hb; omega)
        have h := NatAt.of_cut hrow3 hcut HD.out HL2.out
        rw [HV.out] at h
        have H := Lib.hid h
        clear h hcut hrow3 hob
        go_wp2
        go_ret
        exact ⟨_, rfl, hext, H.out, HN.out⟩
  · have hz : x / 2 ^ (64 * q + s) = 0 := by
      have := (val_bd (by decide) xs dX).2
      rw [e, b64_pow] at this
      have p := pow_mono' (show (1 : Int) ≤ 2 by omega) (show 64 * xs.length ≤ 64 * q + s by omega)
      exact Int.ediv_eq_zero_of_lt hnn (Int.lt_of_lt_of_le this p)
    rw [hz]
    have g : (xs.length : Int) ≤ (q : Int) := by omega
    have wq : IntKind.i64.wrap (q : Int) = (q : Int) := by rw [IntKind.wrap_i64]; omega
    clear hX hc3 hz e hlt hnn nX hn
    go_enter Tryz.func279, Tryz.ntmps279
    go_wp2
    go_ret
    exact ⟨_, rfl, Ext.q, NatAt.zero _ _, New.nil _⟩
end Go.Proofs.YtkegefnpmijfiaaGreat
namespace Go.Proofs.YtkegefnpmijfiaaGreat
open Go.RowKit
/-- Of the first i digits of x each has been taken times y. -/
structure SOut (xs ys : List Int) (i : Nat) (zs : List Int) : Prop where
  len : zs.length = xs.length + ys.length
  digs : Digs B64 zs
  zero : ∀ j, i + ys.length ≤ j → zs.getD j 0 = 0
  is : val B64 zs = val B64 (xs.take i) * val B64 ys
/-- And of the next one the first k digits of y. -/
structure SIn (xs ys z0 : List Int) (i k : Nat) (c : Int) (zs : List Int) : Prop where
  len : zs.length = xs.length + ys.length
  digs : Digs B64 zs
  c0 : 0 ≤ c
  c1 : c < 18446744073709551616
  same : ∀ j, i + k ≤ j → zs.getD j 0 = z0.getD j 0
  is : val B64 zs + c * B64 ^ (i + k) = val B64 z0 + xs.getD i 0 * val B64 (ys.take k) * B64 ^ i
theorem mul_bd64 {x y : Int} (x0 : 0 ≤ x) (x1 : x < 18446744073709551616) (y0 : 0 ≤ y) (y1 : y < 18446744073709551616) : 0 ≤ x * y ∧ x * y ≤ 340282366920938463426481119284349108225 := by
  refine ⟨Int.mul_nonneg x0 y0, ?_⟩
  have a := Int.mul_le_mul_of_nonneg_right (show x ≤ 18446744073709551615 by omega) y0
  omega
theorem SIn.start {xs ys z0 : List Int} {i : Nat} (h : SOut xs ys i z0) : SIn xs ys z0 i 0 0 z0 :=
  ⟨h.len, h.digs, by omega, by omega, fun j _ => rfl, by simp [val]⟩
theorem SIn.step {xs ys z0 zs : List Int} {i k : Nat} {c c' s : Int} (h : SIn xs ys z0 i k c zs) (hi : i < xs.length) (hk : k < ys.length)
    (e : c + zs.getD (i + k) 0 + xs.getD i 0 * ys.getD k 0 = s + c' * 18446744073709551616) (s0 : 0 ≤ s) (s1 : s < 18446744073709551616) (c0 : 0 ≤ c') (c1 : c' < 18446744073709551616) :
    SIn xs ys z0 i (k + 1) c' (zs.set (i + k) s) := by
  refine ⟨by rw [List.length_set]; exact h.len, h.digs.set _ s0 (by unfold B64; omega), c0, c1, fun j hj => ?_, ?_⟩
  · rw [getD_set_ne _ _ _ _ (by omega)]; exact h.same j (by omega)
  · rw [val_set _ _ _ _ (by rw [h.len]; omega), val_take_succ]
    have e0 := h.is
    generalize zs.getD (i + k) 0 = z at *
    generalize xs.getD i 0 = x at *
    generalize ys.getD k 0 = y at *
    have e1 : x * (val B64 (ys.take k) + y * B64 ^ k) * B64 ^ i = x * val B64 (ys.take k) * B64 ^ i + x * y * B64 ^ (i + k) := by
      rw [Int.mul_add, Int.add_mul, ← Int.mul_assoc x y, Int.mul_assoc (x * y), ← Int.pow_add, Nat.add_comm k i]
    rw [e1]
    generalize x * val B64 (ys.take k) * B64 ^ i = t at *
    generalize x * y = xy at *
    have e2 : c' * B64 ^ (i + (k + 1)) = (c' * 18446744073709551616) * B64 ^ (i + k) := by
      rw [← Nat.add_assoc, Int.pow_succ, Int.mul_comm (B64 ^ (i + k)), ← Int.mul_assoc]; rfl
    have e3 : s * B64 ^ (i + k) + (c' * 18446744073709551616) * B64 ^ (i + k) = c * B64 ^ (i + k) + z * B64 ^ (i + k) + xy * B64 ^ (i + k) := by
      rw [← Int.add_mul, ← e, Int.add_mul, Int.add_mul]
    rw [e2, Int.sub_mul]
    generalize B64 ^ (i + k) = p at *
    generalize s * p = rp at *
    generalize c' * 18446744073709551616 * p = qp at *
    generalize z * p = zp at *
    generalize c * p = cp at *
    generalize xy * p = xyp at *
    omega
theorem SIn.done {xs ys z0 zs : List Int} {i : Nat} {c : Int} (h : SIn xs ys z0 i ys.length c zs) (h0 : SOut xs ys i z0) (hi : i < xs.length) :
    SOut xs ys (i + 1) (zs.set (i + ys.length) c) := by
  have e0 : zs.getD (i + ys.length) 0 = 0 := by rw [h.same _ (Nat.le_refl _)]; exact h0.zero _ (Nat.le_refl _)
  refine ⟨by rw [List.length_set]; exact h.len, h.digs.set _ h.c0 h.c1, fun j hj => ?_, ?_⟩
  · rw [getD_set_ne _ _ _ _ (by omega), h.same _ (by omega)]; exact h0.zero _ (by omega)
  · rw [val_set _ _ _ _ (by rw [h.len]; omega), e0, Int.sub_zero, h.is, h0.is, val_take_succ, List.take_length, Int.add_mul, Int.mul_assoc, Int.mul_assoc, Int.mul_comm (val B64 ys)]
theorem sout_start (xs ys : List Int) : SOut xs ys 0 (List.replicate (xs.length + ys.length) 0) := by
  have z : ∀ j, (List.replicate (xs.length + ys.length) (0 : Int)).getD j 0 = 0 := fun j => by
    rw [List.getD_eq_getElem?_getD, List.getElem?_replicate]; split <;> rfl
  refine ⟨by simp, fun d hd => ?_, fun j _ => z j, ?_⟩
  · have := List.eq_of_mem_replicate hd; subst this; exact ⟨Int.le_refl _, by decide⟩
  · rw [val_zeros _ _ (fun j _ => z j)]; simp [val]
/-- One digit: two carries. -/
theorem s_digit {x y z c : Int} (x0 : 0 ≤ x) (x1 : x < 18446744073709551616) (y0 : 0 ≤ y) (y1 : y < 18446744073709551616) (z0 : 0 ≤ z) (z1 : z < 18446744073709551616) (c0 : 0 ≤ c) (c1 : c < 18446744073709551616) :
    let s1 := lo (lo (x * y) + c)
    let o1 := hi (lo (x * y) + c)
    let s2 := lo (z + s1)
    let o2 := hi (z + s1)
    c + z + x * y = s2 + (hi (x * y) + o1 + o2) * 18446744073709551616 ∧ 0 ≤ s2 ∧ s2 < 18446744073709551616 ∧ 0 ≤ hi (x * y) + o1 ∧ hi (x * y) + o1 < 18446744073709551616 ∧ 0 ≤ hi (x * y) + o1 + o2 ∧ hi (x * y) + o1 + o2 < 18446744073709551616 ∧ 0 ≤ s1 ∧ 0 ≤ lo (x * y) := by
  obtain ⟨p0, p1⟩ := mul_bd64 x0 x1 y0 y1
  generalize x * y = p at *
  intro s1 o1 s2 o2
  have e1 : s1 = (p % 18446744073709551616 + c) % 18446744073709551616 := rfl
  have e2 : o1 = (p % 18446744073709551616 + c) / 18446744073709551616 := rfl
  have e3 : s2 = (z + s1) % 18446744073709551616 := rfl
  have e4 : o2 = (z + s1) / 18446744073709551616 := rfl
  unfold hi lo
  omega
set_option maxHeartbeats 4000000 in
set_option maxRecDepth 100000 in
theorem wschool_new {m1 m2 : Value} {x y : Int} {L : Nat} {w : World} (hX : NatAt w m1 x L) (hY : NatAt w m2 y L) (hL : L ≤ 400000) :
    Calls Tryz.prog 179 #[m1, m2] w fun e w' => ∃ v, e = .returned v ∧ Ext w w' ∧ NatAt w' v (x * y) (2 * L) ∧ New w v := by
  obtain ⟨i0, hi0, hz0, hz1, hz2⟩ := info_parts info64
  obtain ⟨xs, ⟨ax, capx, rfl, hx2⟩, dX, nX, rfl, lX⟩ := hX.is
  obtain ⟨ys, ⟨ay, capy, rfl, hy2⟩, dY, nY, rfl, lY⟩ := hY.is
  have rx' : Row .u64 w (.slice ax xs.length capx) xs := ⟨ax, capx, rfl, hx2⟩
  have RX := Lib.hid rx'
  have ry' : Row .u64 w (.slice ay ys.length capy) ys := ⟨ay, capy, rfl, hy2⟩
  have RY := Lib.hid ry'
  clear rx' ry' hx2 hy2 nX nY hX hY
  go_enter Tryz.func179, Tryz.ntmps179
  go_wp2_with (at_make; refine wpList_make_full _ rfl _ _ 141 rfl w.heap.size 59 i0 _ 1 Tryz.underlying141 hi0 hz0 hz1 _ _ _ _ (xs.length + ys.length) rfl rfl (by omega) (by omega) (by rw [hz2]; omega) (by unfold maxLen; omega) (Nat.le_refl _) ?_; intro v3 hown0 hgrow0)
  have hownA : v3.ownsRow w.heap.size 59 1 (.slice (some ⟨w.heap.size, 0, none⟩) (xs.length + ys.length) (xs.length + ys.length)) (xs.length + ys.length) ((List.replicate (xs.length + ys.length) (0 : Int)).map (Value.int .u64)) := by
    rw [List.map_replicate]; have h := hown0; rw [Nat.mul_one, show (Value.int .u64 0).cells = #[.int .u64 0] from rfl, toList_madeCells_one] at h; exact h
  have xA : Ext w v3 := Ext.grown (Ext.refl _) hgrow0 (fun r hr => by cases hr)
  have HA := Lib.hid hownA
  have HS := Lib.hid (sout_start xs ys)
  clear hown0 hgrow0 hownA
  have hT : xs.length + ys.length ≤ 2 * L := by omega
  generalize hT' : xs.length + ys.length = T at *
  have HT := Lib.hid hT'
  clear hT'
  go_loopw [23] (fun iv wr => ∃ (i : Nat) (zs : List Int), i ≤ xs.length ∧ iv = .int .i64 i ∧ SOut xs ys i zs ∧ wr.ownsRow w.heap.size 59 1 (.slice (some ⟨w.heap.size, 0, none⟩) T T) T (zs.map (Value.int .u64)) ∧ Ext w wr) (fun iv _ => xs.length - (intOf iv).toNat)
  case atStart => exact ⟨0, List.replicate T 0, Nat.zero_le _, rfl, HS.out, HA.out, xA⟩
  case round =>
    obtain ⟨i, z0, hik, rfl, hO, hown, hext⟩ := hrel
    rcases Nat.lt_or_ge i xs.length with hx | hge
    · have HO := Lib.hid hO
      have HW := Lib.hid hown
      obtain ⟨bx, ox, rfl, cx1⟩ := RX.out.cellAt i hx
      have cx := hext.cell cx1
      have tl := HT.out
      have nx : (i : Int) < (xs.length : Int) := by omega
      have w1 : IntKind.i64.wrap ((i : Int) + (ys.length : Int)) = (i : Int) + (ys.length : Int) := by rw [IntKind.wrap_i64]; omega
      have w2 : IntKind.i64.wrap ((i : Int) + (ys.length : Int) + 1) = (i : Int) + (ys.length : Int) + 1 := by rw [IntKind.wrap_i64]; omega
      have b1 : (i : Int) ≤ (i : Int) + (ys.length : Int) + 1 := by omega
      have b2 : (i : Int) + (ys.length : Int) + 1 ≤ (T : Int) := by omega
      clear hO hown cx1 tl
      generalize hxd : xs.getD i 0 = xd at *
      have HXD := Lib.hid hxd
      clear hxd
      go_wp2_with fail
      rw [show i + ys.length + 1 - i = ys.length + 1 by omega]
      have hyR : ys.length < ys.length + 1 := Nat.lt_succ_self _
      have hiR : i + (ys.length + 1) ≤ T := by omega
      generalize ys.length + 1 = R at *
      go_loopw [9, 43] (fun cv kv wq => ∃ (k : Nat) (c : Int) (zs : List Int), k ≤ ys.length ∧ kv = .int .i64 k ∧ cv = .int .u64 c ∧ SIn xs ys z0 i k c zs ∧ wq.ownsRow w.heap.size 59 1 (.slice (some ⟨w.heap.size, 0, none⟩) T T) T (zs.map (Value.int .u64)) ∧ Ext w wq) (fun _ kv _ => ys.length - (intOf kv).toNat)
      case atStart => exact ⟨0, 0, z0, Nat.zero_le _, rfl, rfl, SIn.start HO.out, HW.out, hext⟩
      case round =>
        clear HW hext
        obtain ⟨k, c, zs, hk, rfl, rfl, hI, hown, hext⟩ := hrel
        have c0 := hI.c0
        have c1 := hI.c1
        rcases Nat.lt_or_ge k ys.length with hy | hye
        · have cz := owns_at hown (i + k) (by omega)
          have fz := hown.frozenAt (i + k)
          obtain ⟨by', oy, rfl, cy1⟩ := RY.out.cellAt k hy
          have cy := hext.cell cy1
          obtain ⟨a0, a1⟩ := getD_bd' dX i
          obtain ⟨b0, b1'⟩ := getD_bd' dY k
          obtain ⟨e0, e1⟩ := getD_bd' hI.digs (i + k)
          unfold B64 at a1 b1' e1
          obtain ⟨q1, q2, q3, q4, q5, q6, q7, q8, q9⟩ := s_digit a0 a1 b0 b1' e0 e1 c0 c1
          have ST := Lib.hid (hI.step hx hy q1 q2 q3 q6 q7)
          have MU := Lib.hid (fun u => mul64_any (xs.getD i 0) (ys.getD k 0) u a0 a1 b0 b1')
          have A1 := add64_0 (lo (xs.getD i 0 * ys.getD k 0)) c q9 c0
          have A2 := add64_0 (zs.getD (i + k) 0) (lo (lo (xs.getD i 0 * ys.getD k 0) + c)) e0 q8
          have v1 : IntKind.u64.wrap (hi (xs.getD i 0 * ys.getD k 0) + hi (lo (xs.getD i 0 * ys.getD k 0) + c)) = hi (xs.getD i 0 * ys.getD k 0) + hi (lo (xs.getD i 0 * ys.getD k 0) + c) := by rw [IntKind.wrap_u64]; omega
          have v2 : IntKind.u64.wrap (hi (xs.getD i 0 * ys.getD k 0) + hi (lo (xs.getD i 0 * ys.getD k 0) + c) + hi (zs.getD (i + k) 0 + lo (lo (xs.getD i 0 * ys.getD k 0) + c))) = hi (xs.getD i 0 * ys.getD k 0) + hi (lo (xs.getD i 0 * ys.getD k 0) + c) + hi (zs.getD (i + k) 0 + lo (lo (xs.getD i 0 * ys.getD k 0) + c)) := by rw [IntKind.wrap_u64]; omega
          have HW := Lib.hid hown
          have ny : (k : Int) < (ys.length : Int) := by omega
          have nR : (k : Int) < (R : Int) := by omega
          rw [HXD.out] at MU A1 A2 v1 v2 ST
          clear cy1 hI hown q1 q2 q3 q4 q5 q6 q7 q8 q9 a0 a1 HXD
          generalize ys.getD k 0 = yd at *
          generalize zs.getD (i + k) 0 = zd at *
          generalize hi (zd + lo (lo (xd * yd) + c)) = o2 at *
          generalize hs2 : lo (zd + lo (lo (xd * yd) + c)) = s2 at *
          generalize lo (lo (xd * yd) + c) = s1 at *
          generalize hi (lo (xd * yd) + c) = o1 at *
          generalize lo (xd * yd) = pl at *
          generalize hi (xd * yd) = ph at *
          go_wp2_with fail
          refine (MU.out _).mono ?_
          rintro e w' ⟨rfl, rfl⟩
          go_wp2_with fail
          exact ⟨⟨k + 1, _, _, by omega, by go_num, rfl, ST.out, own_set HW.out _ _, Ext.q⟩, by simp [intOf]; omega⟩
        · obtain rfl : ys.length = k := by omega
          have cz := owns_at hown (i + ys.length) (by omega)
          have fz := hown.frozenAt (i + ys.length)
          have ST := Lib.hid (hI.done HO.out hx)
          have HW := Lib.hid hown
          have ny : ¬ (ys.length : Int) < (ys.length : Int) := by omega
          have nR : (ys.length : Int) < (R : Int) := by omega
          clear hI hown
          generalize zs.getD (i + ys.length) 0 = zd at *
          go_wp2_with fail
          exact ⟨⟨i + 1, _, by omega, by go_num, ST.out, own_set HW.out _ _, Ext.q⟩, by simp [intOf]; omega⟩
    · obtain rfl : xs.length = i := by omega
      have HV : Hid (val B64 z0 = val B64 xs * val B64 ys) := Lib.hid (by have e := hO.is; rw [List.take_length] at e; exact e)
      have HD := Lib.hid hO.digs
      have HK : Hid (z0.length ≤ 2 * L) := Lib.hid (by rw [hO.len]; have := HT.out; omega)
      have HR := Lib.hid (Row.of_owns hown).1
      have nx : ¬ (xs.length : Int) < (xs.length : Int) := by omega
      clear hO hown
      go_wp2_with fail
      refine (wtrim_new HR.out).mono ?_
      rintro e w' ⟨v4, n3, hcut, rfl, hrow3, rfl, hob⟩
      have HN : Hid (New w v4) := Lib.hid (fun b hb => by rw [hob] at hb; simp [Value.ownBlock] at hb; omega)
      have h := NatAt.of_cut hrow3 hcut HD.out HK.out
      rw [HV.out] at h
      have H := Lib.hid h
      clear h hcut hrow3 hob
      go_wp2
      go_ret
      exact ⟨_, rfl, hext, H.out, HN.out⟩
end Go.Proofs.YtkegefnpmijfiaaGreat
