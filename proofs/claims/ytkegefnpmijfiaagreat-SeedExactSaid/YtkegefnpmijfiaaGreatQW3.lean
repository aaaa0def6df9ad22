/- whole: divWord, div by one limb. whole: Divide, Down of what is not below 0, by one limb; Mul; Right; Even; Len. whole: Even, Len. Newton's steps for the root: the plain law. -/
import Derived.Test.YtkegefnpmijfiaaGreatQW2
import Derived.Test.YtkegefnpmijfiaaGreatQNat2
import Derived.Test.YtkegefnpmijfiaaGreatQDiv64
import Derived.Test.YtkegefnpmijfiaaGreatQLeft
import Derived.Deep.DeepCutAuto
namespace Go.Proofs.YtkegefnpmijfiaaGreat
open Go.RowKit
structure DwRel (xs : List Int) (d : Int) (k : Nat) (r : Int) (zs : List Int) : Prop where
  len : zs.length = xs.length
  digs : Digs B64 zs
  r0 : 0 ≤ r
  r1 : r < d
  is : val B64 (xs.drop k) = d * val B64 (zs.drop k) + r
theorem DwRel.step {xs zs : List Int} {d r : Int} {k j : Nat} (h : DwRel xs d k r zs) (hj : j + 1 = k) (hk : k ≤ xs.length) (hx : Digs B64 xs) (hd : 0 < d) :
    DwRel xs d j ((r * 18446744073709551616 + xs.getD j 0) % d) (zs.set j ((r * 18446744073709551616 + xs.getD j 0) / d)) := by
  obtain ⟨x0, x1⟩ := getD_bd' hx j
  unfold B64 at x1
  have r0 := h.r0
  have r1 := h.r1
  have b0 := Int.ediv_nonneg (show 0 ≤ r * 18446744073709551616 + xs.getD j 0 by omega) (Int.le_of_lt hd)
  have b1 : (r * 18446744073709551616 + xs.getD j 0) / d < 18446744073709551616 := by
    apply Int.ediv_lt_of_lt_mul hd
    have := Int.mul_le_mul_of_nonneg_right (show r + 1 ≤ d by omega) (show (0 : Int) ≤ 18446744073709551616 by omega)
    rw [Int.mul_comm 18446744073709551616]; omega
  refine ⟨by rw [List.length_set]; exact h.len, h.digs.set _ b0 (by unfold B64; omega), Int.emod_nonneg _ (by omega), Int.emod_lt_of_pos _ hd, ?_⟩
  have e1 : (zs.set j ((r * 18446744073709551616 + xs.getD j 0) / d)).drop j = ((r * 18446744073709551616 + xs.getD j 0) / d) :: zs.drop (j + 1) := by
    rw [drop_cons_getD _ j (by rw [List.length_set, h.len]; omega), getD_set_same _ _ _ (by rw [h.len]; omega), List.drop_set_of_lt (by omega)]
  have e := h.is
  rw [e1, drop_cons_getD xs j (by omega), hj]
  simp only [val]
  rw [e]
  have e2 := Int.mul_ediv_add_emod (r * 18446744073709551616 + xs.getD j 0) d
  generalize (r * 18446744073709551616 + xs.getD j 0) / d = q at *
  generalize (r * 18446744073709551616 + xs.getD j 0) % d = m at *
  generalize xs.getD j 0 = x at *
  rw [Int.mul_add, Int.mul_add d q, Int.mul_left_comm]
  unfold B64
  omega
theorem hi_of {r x : Int} (h0 : 0 ≤ x) (h1 : x < 18446744073709551616) : hi (r * 18446744073709551616 + x) = r ∧ lo (r * 18446744073709551616 + x) = x := by
  unfold hi lo; constructor <;> omega
set_option maxHeartbeats 2000000 in
set_option maxRecDepth 100000 in
theorem wdivWord_any {m : Value} {x d : Int} {L : Nat} {w : World} (hX : NatAt w m x L) (hL : L ≤ 1000000) (hd : 0 < d) (hd1 : d < 18446744073709551616) :
    Calls Tryz.prog 277 #[m, .int .u64 d] w fun e w' => ∃ v, e = .returned (.tuple #[v, .int .u64 (x % d)]) ∧ Ext w w' ∧ NatAt w' v (x / d) L ∧ New w v := by
  obtain ⟨i0, hi0, hz0, hz1, hz2⟩ := info_parts info64
  obtain ⟨xs, ⟨ax, capx, rfl, hx2⟩, dX, nX, rfl, lX⟩ := hX.is
  have rx' : Row .u64 w (.slice ax xs.length capx) xs := ⟨ax, capx, rfl, hx2⟩
  have RX := Lib.hid rx'
  clear hX rx' hx2 nX
  go_enter Tryz.func277, Tryz.ntmps277
  go_wp2_with (at_make; refine wpList_make_full _ rfl _ _ 141 rfl w.heap.size 59 i0 _ 1 Tryz.underlying141 hi0 hz0 hz1 _ _ _ _ xs.length rfl rfl (by omega) (by omega) (by rw [hz2]; omega) (by unfold maxLen; omega) (Nat.le_refl _) ?_; intro v3 hown0 hgrow0)
  have hownA : v3.ownsRow w.heap.size 59 1 (.slice (some ⟨w.heap.size, 0, none⟩) xs.length xs.length) xs.length ((List.replicate xs.length (0 : Int)).map (Value.int .u64)) := by
    rw [List.map_replicate]; have h := hown0; rw [Nat.mul_one, show (Value.int .u64 0).cells = #[.int .u64 0] from rfl, toList_madeCells_one] at h; exact h
  have xA : Ext w v3 := Ext.grown (Ext.refl _) hgrow0 (fun r hr => by cases hr)
  have HA := Lib.hid hownA
  clear hown0 hgrow0 hownA
  go_loopw [7, 8] (fun rv iv wr => ∃ (k : Nat) (r : Int) (zs : List Int), k ≤ xs.length ∧ iv = .int .i64 ((k : Int) - 1) ∧ rv = .int .u64 r ∧ DwRel xs d k r zs ∧ wr.ownsRow w.heap.size 59 1 (.slice (some ⟨w.heap.size, 0, none⟩) xs.length xs.length) xs.length (zs.map (Value.int .u64)) ∧ Ext w wr) (fun _ iv _ => (intOf iv + 1).toNat)
  case atStart =>
    refine ⟨xs.length, 0, List.replicate xs.length 0, Nat.le_refl _, rfl, rfl, ⟨by simp, fun d hd => ?_, by omega, hd, ?_⟩, HA.out, xA⟩
    · have := List.eq_of_mem_replicate hd; subst this; exact ⟨Int.le_refl _, by decide⟩
    · rw [List.drop_length, List.drop_of_length_le (by simp)]; simp [val]
  case round =>
    obtain ⟨k, r, zs, hk, rfl, rfl, hS, hown, hext⟩ := hrel
    rcases Nat.eq_zero_or_pos k with hk0 | hk0
    · subst hk0
      have hs := hS.is
      rw [List.drop_zero, List.drop_zero] at hs
      have r0 := hS.r0
      have r1 := hS.r1
      have e1 : val B64 xs / d = val B64 zs := by rw [hs, Int.add_comm, Int.add_mul_ediv_left _ _ (by omega), Int.ediv_eq_zero_of_lt r0 r1, Int.zero_add]
      have e2 : val B64 xs % d = r := by rw [hs, Int.add_comm, Int.add_mul_emod_self_left, Int.emod_eq_of_lt r0 r1]
      have HR := Lib.hid (Row.of_owns hown).1
      have HD := Lib.hid hS.digs
      have HLn : Hid (zs.length ≤ L) := Lib.hid (by rw [hS.len]; exact lX)
      have E1 := Lib.hid e1
      have E2 := Lib.hid e2
      clear hS hs e1 e2 hown
      go_wp2_with fail
      refine (wtrim_new HR.out).mono ?_
      rintro e w' ⟨v4, n3, hcut, rfl, hrow3, rfl, hob⟩
      have HN : Hid (New w v4) := Lib.hid (fun b hb => by rw [hob] at hb; simp [Value.ownBlock] at hb; omega)
      have h := NatAt.of_cut hrow3 hcut HD.out HLn.out
      rw [← E1.out] at h
      have H := Lib.hid h
      clear h hcut hrow3 hob
      go_wp2
      go_ret2
      exact ⟨_, by rw [E2.out]; rfl, hext, H.out, HN.out⟩
    · have HST := Lib.hid (hS.step (j := k - 1) (by omega) hk dX hd)
      obtain ⟨bx, ox, rfl, cx1⟩ := RX.out.cellAt (k - 1) (by omega)
      have cx := hext.cell cx1
      have r0 := hS.r0
      have r1 := hS.r1
      obtain ⟨x0, x1⟩ := getD_bd' dX (k - 1)
      unfold B64 at x1
      have en : ((k - 1 : Nat) : Int) = (k : Int) - 1 := by omega
      have nx : (k : Int) - 1 < (xs.length : Int) := by omega
      have cz := owns_at hown (k - 1) (by omega)
      have fz := hown.frozenAt (k - 1)
      have HW := Lib.hid hown
      have dv := fun u => div64_any (r * 18446744073709551616 + xs.getD (k - 1) 0) d u (by constructor <;> omega) (by rw [(hi_of x0 x1).1]; exact r1) hd1
      rw [(hi_of x0 x1).1, (hi_of x0 x1).2] at dv
      have DV := Lib.hid dv
      clear cx1 hS hown dv
      generalize xs.getD (k - 1) 0 = xd at *
      generalize zs.getD (k - 1) 0 = zd at *
      generalize hN : r * 18446744073709551616 + xd = N at *
      go_wp2_with fail
      refine (DV.out _).mono ?_
      rintro e v1 ⟨rfl, x1⟩
      have HW1 := Lib.hid (x1.owns (g := w.heap.size) HW.out)
      have cz1 := owns_at HW1.out (k - 1) (by omega)
      have fz1 := HW1.out.frozenAt (k - 1)
      clear cz fz
      generalize zs.getD (k - 1) 0 = zd' at *
      go_wp2_with fail
      exact ⟨⟨k - 1, _, _, by omega, by rw [en], rfl, HST.out, own_set HW1.out _ _, Ext.q⟩, by simp [intOf]; omega⟩
set_option maxHeartbeats 2000000 in
set_option maxRecDepth 100000 in
theorem wclone_empty (ad : Addr) (c : Nat) (w : World) :
    Calls Tryz.prog 181 #[.slice (some ad) 0 c] w fun e w' => ∃ v, e = .returned v ∧ Ext w w' ∧ w'.ownsRow w.heap.size 59 1 v 0 (([] : List Int).map (Value.int .u64)) := by
  obtain ⟨i0, hi0, hz0, hz1, hz2⟩ := info_parts info64
  have q22 := eql_nil
  go_enter Tryz.func181, Tryz.ntmps181
  go_wp2_with (at_builtin; refine wpList_append_own _ rfl _ _ 141 rfl w.heap.size 59 i0 (.int .u64 0) 1 8 Tryz.underlying141 hi0 hz0 hz1 hz2 rfl (by decide) _ _ _ rfl (World.ownsRow_made w #[] 0 (Nat.le_refl _) (Nat.zero_le _) rfl) ad 0 c [] rfl rfl (by intro j u h; simp at h) (by intro u h; simp at h) (by unfold maxLen; omega) (by omega) (by simp) ?_)
  intro v' w1 hown hgrow hnil
  go_wp2
  go_ret
  refine ⟨v', rfl, ?_, by simpa using hown⟩
  exact ((Below.refl _ w).alloc (Nat.le_refl _) _).grown hgrow (by simp) (by intro k hk; simp [Value.ownBlock] at hk; omega)
theorem wclone_nil (c : Nat) (w : World) :
    Calls Tryz.prog 181 #[.slice none 0 c] w fun e w' => e = .returned (.slice none 0 0) ∧ Ext w w' := by
  have q22 := eql_nil
  go_enter Tryz.func181, Tryz.ntmps181
  go_wp2
  go_ret
  exact ⟨rfl, Ext.q⟩
theorem own_new {w w' : World} {v : Value} {n : Nat} {xs : List Value} {e : TypeId} (h : w'.ownsRow w.heap.size e 1 v n xs) : New w v := by
  intro b hb
  rcases h.2 with ⟨rfl, _⟩ | ⟨g, cap, cur, rfl, hg, _⟩
  · simp [Value.ownBlock] at hb
  · simp [Value.ownBlock] at hb; omega
theorem wclone_nat {m : Value} {x : Int} {L : Nat} {w : World} (hX : NatAt w m x L) (hL : L ≤ 1000000) :
    Calls Tryz.prog 181 #[m] w fun e w' => ∃ v, e = .returned v ∧ Ext w w' ∧ NatAt w' v x L ∧ New w v := by
  obtain ⟨xs, ⟨ax, capx, rfl, h1, h2, h3⟩, dX, nX, rfl, lX⟩ := hX.is
  by_cases h0 : xs = []
  · subst h0
    cases ax with
    | none => exact (wclone_nil capx w).mono (by rintro e w' ⟨rfl, x⟩; exact ⟨_, rfl, x, NatAt.zero _ _, New.nil _⟩)
    | some ad => exact (wclone_empty ad capx w).mono (by rintro e w' ⟨v, rfl, x, h⟩; exact ⟨_, rfl, x, ⟨⟨[], (Row.of_owns h).1, dX, nX, rfl, Nat.zero_le _⟩⟩, own_new h⟩)
  · obtain ⟨b, o, rfl, hc⟩ := h3 h0
    have hR : Row .u64 w (.slice (some ⟨b, o, none⟩) xs.length capx) xs := ⟨_, capx, rfl, h1, h2, h3⟩
    exact (wclone_own hR (by omega) (List.length_pos_iff.2 h0)).mono (by rintro e w' ⟨v, rfl, x, h⟩; exact ⟨_, rfl, x, ⟨⟨xs, (Row.of_owns h).1, dX, nX, rfl, lX⟩⟩, own_new h⟩)
set_option maxHeartbeats 1000000 in
/-- div by one limb. -/
theorem wdiv_small {m1 m2 : Value} {x y : Int} {L : Nat} {w : World} (hX : NatAt w m1 x L) (hY : NatAt w m2 y 1) (y0 : 0 < y) (hL0 : 1 ≤ L) (hL : L ≤ 1000000) :
    Calls Tryz.prog 238 #[m1, m2] w fun e w' => ∃ q r, e = .returned (.tuple #[q, r]) ∧ Ext w w' ∧ NatAt w' q (x / y) L ∧ NatAt w' r (x % y) L ∧ New w q ∧ New w r := by
  have x0 := hX.nn
  have y1 := hY.lt
  have HX := Lib.hid hX
  have HY := Lib.hid (hY.mono hL0)
  obtain ⟨a1, k1, c1, rfl, -⟩ := hX.form
  obtain ⟨ys, ⟨ay, capy, rfl, g1, g2, g3⟩, dY, nY, ey, lY⟩ := hY.is
  have hl : ys.length = 1 := by
    rcases Nat.eq_zero_or_pos ys.length with h | h
    · have := List.eq_nil_of_length_eq_zero h; subst this; simp [val] at ey; omega
    · omega
  obtain ⟨d, rfl⟩ := List.length_eq_one_iff.1 hl
  have ed : d = y := by simpa [val] using ey
  subst ed
  obtain ⟨b, o, rfl, hc⟩ := g3 (by simp)
  have cy := hc 0 (by simp)
  simp at cy
  clear hX hY hl ey g1 g2 g3 dY nY lY hc
  have LD := Lib.hid (show x % d < 2 ^ (64 * 1) by have := Int.emod_lt_of_pos x y0; omega)
  have LD2 := Lib.hid (show 0 ≤ x % d ∧ x % d < 18446744073709551616 from ⟨Int.emod_nonneg x (by omega), by have := Int.emod_lt_of_pos x y0; simp at y1; omega⟩)
  have d1 : d < 18446744073709551616 := by simp at y1; omega
  simp only [List.length_cons, List.length_nil, Nat.zero_add] at HY ⊢
  rcases Int.lt_or_le x d with h | h
  · have CM := Lib.hid (fun (u : World) p q => wcmp_any (w := u) (m1 := .slice a1 k1 c1) (m2 := .slice (some ⟨b, o, none⟩) 1 capy) (x := x) (y := d) (L := L) p q hL)
    rw [cmpI_lt h] at CM
    have E1 := Lib.hid (Int.ediv_eq_zero_of_lt x0 h)
    have E2 := Lib.hid (Int.emod_eq_of_lt x0 h)
    clear h y1
    go_enter Tryz.func238, Tryz.ntmps238
    go_wp2_with fail; refine (CM.out _ (HX.out.ext Ext.q) (HY.out.ext Ext.q)).mono ?_; rintro e v1 ⟨rfl, x1⟩; obtain ⟨c1, f1⟩ := x1.rules; have z1 := x1.size
    go_wp2_with fail; refine (wclone_nat (HX.out.ext Ext.q) hL).mono ?_; rintro e v2 ⟨q2, rfl, x2, h2⟩; obtain ⟨c2, f2⟩ := x2.rules; have z2 := x2.size
    obtain ⟨h2, n2⟩ := h2
    have H2 := Lib.hid h2
    have N2 := Lib.hid n2
    clear h2 n2
    go_wp2
    go_ret2
    exact ⟨_, _, rfl, Ext.q, by rw [E1.out]; exact NatAt.zero _ _, by rw [E2.out]; exact H2.out, New.nil _, N2.out.old (by have := x1.size; omega)⟩
  · have CM := Lib.hid (fun (u : World) p q => wcmp_any (w := u) (m1 := .slice a1 k1 c1) (m2 := .slice (some ⟨b, o, none⟩) 1 capy) (x := x) (y := d) (L := L) p q hL)
    have c0 : 0 ≤ cmpI x d := by unfold cmpI; rw [if_neg (by omega)]; split <;> omega
    generalize cmpI x d = cc at CM c0
    have cn : ¬ cc < 0 := by omega
    have WD := Lib.hid (fun u => wword_new (x % d) u LD2.out.1 LD2.out.2)
    clear h y1
    go_enter Tryz.func238, Tryz.ntmps238
    go_wp2_with fail; refine (CM.out _ (HX.out.ext Ext.q) (HY.out.ext Ext.q)).mono ?_; rintro e v1 ⟨rfl, x1⟩; obtain ⟨c1, f1⟩ := x1.rules; have z1 := x1.size
    have cy1 := x1.cell cy
    go_wp2_with fail; refine (wdivWord_any (HX.out.ext Ext.q) hL y0 d1).mono ?_; rintro e v2 ⟨q2, rfl, x2, h2⟩; obtain ⟨c2, f2⟩ := x2.rules; have z2 := x2.size
    obtain ⟨h2, n2⟩ := h2
    have H2 := Lib.hid h2
    have N2 := Lib.hid n2
    clear h2 n2
    go_wp2_with fail; refine (WD.out _).mono ?_; rintro e v3 ⟨q3, rfl, x3, h3⟩; obtain ⟨c3, f3⟩ := x3.rules; have z3 := x3.size
    obtain ⟨h3, n3⟩ := h3
    have H3 := Lib.hid (h3.mono hL0)
    have N3 := Lib.hid n3
    clear h3 n3
    go_wp2
    go_ret2
    exact ⟨_, _, rfl, Ext.q, H2.out.ext Ext.q, H3.out, N2.out.old (by have := x1.size; omega), N3.out.old (by have := x1.size; have := x2.size; omega)⟩
end Go.Proofs.YtkegefnpmijfiaaGreat
namespace Go.Proofs.YtkegefnpmijfiaaGreat
open Go.RowKit
set_option maxHeartbeats 4000000 in
set_option maxRecDepth 100000 in
theorem wDivide_nn {u v : Value} {x y : Int} {L : Nat} {w : World} (hu : IntAt w u x L) (hv : IntAt w v y 1) (x0 : 0 ≤ x) (y0 : 0 < y) (hL0 : 1 ≤ L) (hL : L ≤ 1000000) :
    Calls Tryz.prog 182 #[u, v] w fun e w' => ∃ q r, e = .returned (.tuple #[q, r]) ∧ Ext w w' ∧ IntAt w' q (x / y) L ∧ IntAt w' r (x % y) L ∧ NewInt w q ∧ NewInt w r := by
  obtain ⟨a1, k1, c1, rfl, m1⟩ := hu.form
  obtain ⟨a2, k2, c2, rfl, m2⟩ := hv.form
  have sx : decide (x < 0) = false := by simp; omega
  have sy : decide (y < 0) = false := by simp; omega
  rw [mag_of x0] at m1
  rw [mag_of (Int.le_of_lt y0)] at m2
  rw [sx, sy]
  have q0 : 0 ≤ x / y := Int.ediv_nonneg x0 (by omega)
  have r0 : 0 ≤ x % y := Int.emod_nonneg x (by omega)
  have M1 := Lib.hid m1
  have M2 := Lib.hid m2
  have SQ := Lib.hid (show false = decide (x / y < 0) by symm; simp; omega)
  have SR := Lib.hid (show false = decide (x % y < 0) by symm; simp; omega)
  have MQ := Lib.hid (mag_of q0)
  have MR := Lib.hid (mag_of r0)
  clear m1 m2 hu hv sx sy q0 r0
  go_enter Tryz.func182, Tryz.ntmps182
  go_wp2_with fail; refine (wdiv_small (M1.out.ext Ext.q) (M2.out.ext Ext.q) y0 hL0 hL).mono ?_; rintro e v1 ⟨q1, r1, rfl, x1, h1, hr1, n1, n2⟩; obtain ⟨c1, f1⟩ := x1.rules; have z1 := x1.size; have lq := fun o => c1 (w.heap.size) o (by first | (simp; done) | (simp; omega) | omega); have mq := fun o => f1 (w.heap.size) o (by first | (simp; done) | (simp; omega) | omega); have k1_0_0 := lq 0; have q1_0_0 := mq 0; have k1_0_1 := lq 1; have q1_0_1 := mq 1; clear lq mq; have lq := fun o => c1 (w.heap.size + 1) o (by first | (simp; done) | (simp; omega) | omega); have mq := fun o => f1 (w.heap.size + 1) o (by first | (simp; done) | (simp; omega) | omega); have k1_1_0 := lq 0; have q1_1_0 := mq 0; have k1_1_1 := lq 1; have q1_1_1 := mq 1; clear lq mq; have lq := fun o => c1 (w.heap.size + 2) o (by first | (simp; done) | (simp; omega) | omega); have mq := fun o => f1 (w.heap.size + 2) o (by first | (simp; done) | (simp; omega) | omega); have k1_2_0 := lq 0; have q1_2_0 := mq 0; have k1_2_1 := lq 1; have q1_2_1 := mq 1; clear lq mq; have lq := fun o => c1 (w.heap.size + 3) o (by first | (simp; done) | (simp; omega) | omega); have mq := fun o => f1 (w.heap.size + 3) o (by first | (simp; done) | (simp; omega) | omega); have k1_3_0 := lq 0; have q1_3_0 := mq 0; have k1_3_1 := lq 1; have q1_3_1 := mq 1; clear lq mq; have z1_0 : w.heap.size < v1.heap.size := (by (try simp at z1); omega); have z1_1 : w.heap.size + 1 < v1.heap.size := (by (try simp at z1); omega); have z1_2 : w.heap.size + 2 < v1.heap.size := (by (try simp at z1); omega); have z1_3 : w.heap.size + 3 < v1.heap.size := (by (try simp at z1); omega); (try simp at z1); clear c1 f1; simp [go_sem, *] at k1_0_0 q1_0_0 k1_0_1 q1_0_1 k1_1_0 q1_1_0 k1_1_1 q1_1_1 k1_2_0 q1_2_0 k1_2_1 q1_2_1 k1_3_0 q1_3_0 k1_3_1 q1_3_1
  have H1 := Lib.hid h1
  have N1 := Lib.hid n1
  have H2 := Lib.hid hr1
  have N2 := Lib.hid n2
  obtain ⟨a3, k3, c3, rfl, -⟩ := h1.form
  obtain ⟨a4, k4, c4, rfl, -⟩ := hr1.form
  have OA := Lib.hid (fun u => wOf_raw false H1.out u)
  have OB := Lib.hid (fun u => wOf_raw false H2.out u)
  simp only [Bool.false_and] at OA OB
  clear h1 hr1 n1 n2
  go_wp2_with fail
  go_cut [] (fun wx => wx.cell? ⟨w.heap.size, 0, none⟩ = some (.bool false) ∧ wx.cell? ⟨w.heap.size + 1, 0, none⟩ = some (.bool false) ∧ wx.cell? ⟨w.heap.size + 1 + 1, 0, none⟩ = some (.bool false) ∧ wx.cell? ⟨w.heap.size + 1 + 1, 1, none⟩ = some (.slice a3 k3 c3) ∧ wx.cell? ⟨w.heap.size + 1 + 1 + 1, 0, none⟩ = some (.bool false) ∧ wx.cell? ⟨w.heap.size + 1 + 1 + 1, 1, none⟩ = some (.slice a4 k4 c4) ∧ wx.frozen? ⟨w.heap.size + 1 + 1, 0, none⟩ = false ∧ wx.frozen? ⟨w.heap.size + 1 + 1, 1, none⟩ = false ∧ wx.frozen? ⟨w.heap.size + 1 + 1 + 1, 0, none⟩ = false ∧ wx.frozen? ⟨w.heap.size + 1 + 1 + 1, 1, none⟩ = false ∧ NatAt wx (.slice a3 k3 c3) (mag (x / y)) L ∧ NatAt wx (.slice a4 k4 c4) (mag (x % y)) L ∧ w.heap.size + 3 < wx.heap.size ∧ Ext w wx)
  case first =>
    go_region_held3 (fun w' => w'.cell? ⟨w.heap.size, 0, none⟩ = some (.bool false) ∧ w'.cell? ⟨w.heap.size + 1, 0, none⟩ = some (.bool false) ∧ w.heap.size + 3 < w'.heap.size ∧ Ext w w')
      (refine ⟨?_, ?_, ?_, ?_⟩ <;> first | (simp [go_sem, *]; done) | omega | (simp at z1; omega) | (simp at z2; omega) | (simp at z3; omega) | (simp at z4; omega) | exact Ext.q)
      (first
        | ((go_at_call 176; refine (OA.out _).mono ?_; rintro e v2 ⟨rfl, x2⟩; obtain ⟨c2, f2⟩ := x2.rules; have z2 := x2.size; have lq := fun o => c2 (w.heap.size) o (by first | (simp; done) | (simp; omega) | omega); have mq := fun o => f2 (w.heap.size) o (by first | (simp; done) | (simp; omega) | omega); have k2_0_0 := lq 0; have q2_0_0 := mq 0; have k2_0_1 := lq 1; have q2_0_1 := mq 1; clear lq mq; have lq := fun o => c2 (w.heap.size + 1) o (by first | (simp; done) | (simp; omega) | omega); have mq := fun o => f2 (w.heap.size + 1) o (by first | (simp; done) | (simp; omega) | omega); have k2_1_0 := lq 0; have q2_1_0 := mq 0; have k2_1_1 := lq 1; have q2_1_1 := mq 1; clear lq mq; have lq := fun o => c2 (w.heap.size + 2) o (by first | (simp; done) | (simp; omega) | omega); have mq := fun o => f2 (w.heap.size + 2) o (by first | (simp; done) | (simp; omega) | omega); have k2_2_0 := lq 0; have q2_2_0 := mq 0; have k2_2_1 := lq 1; have q2_2_1 := mq 1; clear lq mq; have lq := fun o => c2 (w.heap.size + 3) o (by first | (simp; done) | (simp; omega) | omega); have mq := fun o => f2 (w.heap.size + 3) o (by first | (simp; done) | (simp; omega) | omega); have k2_3_0 := lq 0; have q2_3_0 := mq 0; have k2_3_1 := lq 1; have q2_3_1 := mq 1; clear lq mq; have z2_0 : w.heap.size < v2.heap.size := (by (try simp at z2); omega); have z2_1 : w.heap.size + 1 < v2.heap.size := (by (try simp at z2); omega); have z2_2 : w.heap.size + 2 < v2.heap.size := (by (try simp at z2); omega); have z2_3 : w.heap.size + 3 < v2.heap.size := (by (try simp at z2); omega); (try simp at z2); clear c2 f2; simp [go_sem, *] at k2_0_0 q2_0_0 k2_0_1 q2_0_1 k2_1_0 q2_1_0 k2_1_1 q2_1_1 k2_2_0 q2_2_0 k2_2_1 q2_2_1 k2_3_0 q2_3_0 k2_3_1 q2_3_1); clear OA)
        | ((go_at_call 176; refine (OB.out _).mono ?_; rintro e v3 ⟨rfl, x3⟩; obtain ⟨c3, f3⟩ := x3.rules; have z3 := x3.size; have lq := fun o => c3 (w.heap.size) o (by first | (simp; done) | (simp; omega) | omega); have mq := fun o => f3 (w.heap.size) o (by first | (simp; done) | (simp; omega) | omega); have k3_0_0 := lq 0; have q3_0_0 := mq 0; have k3_0_1 := lq 1; have q3_0_1 := mq 1; clear lq mq; have lq := fun o => c3 (w.heap.size + 1) o (by first | (simp; done) | (simp; omega) | omega); have mq := fun o => f3 (w.heap.size + 1) o (by first | (simp; done) | (simp; omega) | omega); have k3_1_0 := lq 0; have q3_1_0 := mq 0; have k3_1_1 := lq 1; have q3_1_1 := mq 1; clear lq mq; have lq := fun o => c3 (w.heap.size + 2) o (by first | (simp; done) | (simp; omega) | omega); have mq := fun o => f3 (w.heap.size + 2) o (by first | (simp; done) | (simp; omega) | omega); have k3_2_0 := lq 0; have q3_2_0 := mq 0; have k3_2_1 := lq 1; have q3_2_1 := mq 1; clear lq mq; have lq := fun o => c3 (w.heap.size + 3) o (by first | (simp; done) | (simp; omega) | omega); have mq := fun o => f3 (w.heap.size + 3) o (by first | (simp; done) | (simp; omega) | omega); have k3_3_0 := lq 0; have q3_3_0 := mq 0; have k3_3_1 := lq 1; have q3_3_1 := mq 1; clear lq mq; have z3_0 : w.heap.size < v3.heap.size := (by (try simp at z3); omega); have z3_1 : w.heap.size + 1 < v3.heap.size := (by (try simp at z3); omega); have z3_2 : w.heap.size + 2 < v3.heap.size := (by (try simp at z3); omega); have z3_3 : w.heap.size + 3 < v3.heap.size := (by (try simp at z3); omega); (try simp at z3); clear c3 f3; simp [go_sem, *] at k3_0_0 q3_0_0 k3_0_1 q3_0_1 k3_1_0 q3_1_0 k3_1_1 q3_1_1 k3_2_0 q3_2_0 k3_2_1 q3_2_1 k3_3_0 q3_3_0 k3_3_1 q3_3_1); clear OB))
    all_goals
      have O2 := Lib.hid (N1.out.off (g := w.heap.size + 1 + 1) (by simp))
      have O3 := Lib.hid (N1.out.off (g := w.heap.size + 1 + 1 + 1) (by simp))
      have P2 := Lib.hid (N2.out.off (g := w.heap.size + 1 + 1) (by simp))
      have P3 := Lib.hid (N2.out.off (g := w.heap.size + 1 + 1 + 1) (by simp))
      have HQ := Lib.hid (show NatAt v1 (.slice a3 k3 c3) (mag (x / y)) L by rw [MQ.out]; exact H1.out)
      have HR := Lib.hid (show NatAt v1 (.slice a4 k4 c4) (mag (x % y)) L by rw [MR.out]; exact H2.out)
      go_wp2_with fail
      go_meet
      exact ⟨by simp [go_sem, *], by simp [go_sem, *], by simp [go_sem, *], by simp [go_sem, *], by simp [go_sem, *], by simp [go_sem, *], by simp [go_sem, *], by simp [go_sem, *], by simp [go_sem, *], by simp [go_sem, *], (by repeat (first | with_reducible exact HQ.out | with_reducible refine NatAt.alloc' ?_ | with_reducible refine NatAt.drew' ?_ | with_reducible refine NatAt.drewN' ?_ | with_reducible refine NatAt.off ?_ O2.out | with_reducible refine NatAt.off ?_ O3.out | with_reducible refine NatAt.ext ?_ x1 | with_reducible refine NatAt.ext ?_ x2 | with_reducible refine NatAt.ext ?_ x3 | with_reducible refine NatAt.ext ?_ xd | with_reducible refine NatAt.ext ?_ hx | with_reducible refine NatAt.ext ?_ hext)), (by repeat (first | with_reducible exact HR.out | with_reducible refine NatAt.alloc' ?_ | with_reducible refine NatAt.drew' ?_ | with_reducible refine NatAt.drewN' ?_ | with_reducible refine NatAt.off ?_ P2.out | with_reducible refine NatAt.off ?_ P3.out | with_reducible refine NatAt.ext ?_ x1 | with_reducible refine NatAt.ext ?_ x2 | with_reducible refine NatAt.ext ?_ x3 | with_reducible refine NatAt.ext ?_ xd | with_reducible refine NatAt.ext ?_ hx | with_reducible refine NatAt.ext ?_ hext)), by (first | (simp; done) | (simp; omega) | omega), Ext.q⟩
  case rest =>
    obtain ⟨t0, t1, t2, t3, t4, t5, t6, t7, t8, t9, hq, hr, tz, hext⟩ := hcut
    have O2 := Lib.hid (N1.out.off (g := w.heap.size + 1 + 1) (by simp))
    have O3 := Lib.hid (N1.out.off (g := w.heap.size + 1 + 1 + 1) (by simp))
    have P2 := Lib.hid (N2.out.off (g := w.heap.size + 1 + 1) (by simp))
    have P3 := Lib.hid (N2.out.off (g := w.heap.size + 1 + 1 + 1) (by simp))
    have HQ := Lib.hid hq
    have HR := Lib.hid hr
    clear hq hr OA OB
    rcases Nat.eq_zero_or_pos k4 with hk | hk
    · have kk : (k4 : Int) = 0 := by omega
      clear hk
      go_wp2_with fail
      go_region
      go_wp2
      simp [bodyPost, results, Tryz.results182, go_sem, *]
      exact ⟨_, _, ⟨rfl, rfl⟩, Ext.q, IntAt.of SQ.out (by repeat (first | with_reducible exact HQ.out | with_reducible refine NatAt.alloc' ?_ | with_reducible refine NatAt.drew' ?_ | with_reducible refine NatAt.drewN' ?_ | with_reducible refine NatAt.off ?_ O2.out | with_reducible refine NatAt.off ?_ O3.out | with_reducible refine NatAt.ext ?_ x1 | with_reducible refine NatAt.ext ?_ x2 | with_reducible refine NatAt.ext ?_ x3 | with_reducible refine NatAt.ext ?_ xd | with_reducible refine NatAt.ext ?_ hx | with_reducible refine NatAt.ext ?_ hext)), IntAt.of SR.out (by repeat (first | with_reducible exact HR.out | with_reducible refine NatAt.alloc' ?_ | with_reducible refine NatAt.drew' ?_ | with_reducible refine NatAt.drewN' ?_ | with_reducible refine NatAt.off ?_ P2.out | with_reducible refine NatAt.off ?_ P3.out | with_reducible refine NatAt.ext ?_ x1 | with_reducible refine NatAt.ext ?_ x2 | with_reducible refine NatAt.ext ?_ x3 | with_reducible refine NatAt.ext ?_ xd | with_reducible refine NatAt.ext ?_ hx | with_reducible refine NatAt.ext ?_ hext)), NewInt.mk (N1.out.old (by first | (simp; done) | (simp; omega) | omega)), NewInt.mk (N2.out.old (by first | (simp; done) | (simp; omega) | omega))⟩
    · have kk : (0 : Int) < (k4 : Int) := by omega
      clear hk
      go_wp2_with fail
      go_region
      go_wp2
      simp [bodyPost, results, Tryz.results182, go_sem, *]
      exact ⟨_, _, ⟨rfl, rfl⟩, Ext.q, IntAt.of SQ.out (by repeat (first | with_reducible exact HQ.out | with_reducible refine NatAt.alloc' ?_ | with_reducible refine NatAt.drew' ?_ | with_reducible refine NatAt.drewN' ?_ | with_reducible refine NatAt.off ?_ O2.out | with_reducible refine NatAt.off ?_ O3.out | with_reducible refine NatAt.ext ?_ x1 | with_reducible refine NatAt.ext ?_ x2 | with_reducible refine NatAt.ext ?_ x3 | with_reducible refine NatAt.ext ?_ xd | with_reducible refine NatAt.ext ?_ hx | with_reducible refine NatAt.ext ?_ hext)), IntAt.of SR.out (by repeat (first | with_reducible exact HR.out | with_reducible refine NatAt.alloc' ?_ | with_reducible refine NatAt.drew' ?_ | with_reducible refine NatAt.drewN' ?_ | with_reducible refine NatAt.off ?_ P2.out | with_reducible refine NatAt.off ?_ P3.out | with_reducible refine NatAt.ext ?_ x1 | with_reducible refine NatAt.ext ?_ x2 | with_reducible refine NatAt.ext ?_ x3 | with_reducible refine NatAt.ext ?_ xd | with_reducible refine NatAt.ext ?_ hx | with_reducible refine NatAt.ext ?_ hext)), NewInt.mk (N1.out.old (by first | (simp; done) | (simp; omega) | omega)), NewInt.mk (N2.out.old (by first | (simp; done) | (simp; omega) | omega))⟩
set_option maxHeartbeats 1000000 in
theorem wDown_ref {u v : Value} {x y : Int} {L : Nat} {w : World} (hu : IntAt w u x L) (hv : IntAt w v y 1) (x0 : 0 ≤ x) (y0 : 0 < y) (hL0 : 1 ≤ L) (hL : L ≤ 1000000) :
    Calls Tryz.prog 229 #[u, v] w fun e w' => ∃ q, e = .returned q ∧ Ext w w' ∧ IntAt w' q (x / y) L ∧ NewInt w q := by
  have HU := Lib.hid hu
  have HV := Lib.hid hv
  obtain ⟨a1, k1, c1, rfl, -⟩ := hu.form
  obtain ⟨a2, k2, c2, rfl, -⟩ := hv.form
  clear hu hv
  go_enter Tryz.func229, Tryz.ntmps229
  go_wp2_with fail; refine (wDivide_nn (HU.out.ext Ext.q) (HV.out.ext Ext.q) x0 y0 hL0 hL).mono ?_; rintro e v1 ⟨q1, r1, rfl, x1, h1, hr1, n1, n2⟩; obtain ⟨c1, f1⟩ := x1.rules; have z1 := x1.size; have lq := fun o => c1 (w.heap.size) o (by first | (simp; done) | (simp; omega) | omega); have mq := fun o => f1 (w.heap.size) o (by first | (simp; done) | (simp; omega) | omega); have k1_0_0 := lq 0; have q1_0_0 := mq 0; have k1_0_1 := lq 1; have q1_0_1 := mq 1; clear lq mq; have lq := fun o => c1 (w.heap.size + 1) o (by first | (simp; done) | (simp; omega) | omega); have mq := fun o => f1 (w.heap.size + 1) o (by first | (simp; done) | (simp; omega) | omega); have k1_1_0 := lq 0; have q1_1_0 := mq 0; have k1_1_1 := lq 1; have q1_1_1 := mq 1; clear lq mq; have lq := fun o => c1 (w.heap.size + 2) o (by first | (simp; done) | (simp; omega) | omega); have mq := fun o => f1 (w.heap.size + 2) o (by first | (simp; done) | (simp; omega) | omega); have k1_2_0 := lq 0; have q1_2_0 := mq 0; have k1_2_1 := lq 1; have q1_2_1 := mq 1; clear lq mq; have z1_0 : w.heap.size < v1.heap.size := (by (try simp at z1); omega); have z1_1 : w.heap.size + 1 < v1.heap.size := (by (try simp at z1); omega); have z1_2 : w.heap.size + 2 < v1.heap.size := (by (try simp at z1); omega); (try simp at z1); clear c1 f1; simp [go_sem, *] at k1_0_0 q1_0_0 k1_0_1 q1_0_1 k1_1_0 q1_1_0 k1_1_1 q1_1_1 k1_2_0 q1_2_0 k1_2_1 q1_2_1
  obtain ⟨a3, k3, c3, rfl, hq⟩ := h1.form
  obtain ⟨a4, k4, c4, rfl, -⟩ := hr1.form
  have HQ := Lib.hid hq
  have N1 := Lib.hid (n1 _ _ rfl)
  have O2 := Lib.hid (N1.out.off (g := w.heap.size + 1 + 1) (by simp))
  clear h1 hr1 n1 n2 hq
  go_wp2
  simp [bodyPost, results, Tryz.results229, go_sem, *]
  exact ⟨Ext.q, IntAt.of rfl (by repeat (first | with_reducible exact HQ.out | with_reducible refine NatAt.alloc' ?_ | with_reducible refine NatAt.drew' ?_ | with_reducible refine NatAt.drewN' ?_ | with_reducible refine NatAt.off ?_ O2.out | with_reducible refine NatAt.ext ?_ x1 | with_reducible refine NatAt.ext ?_ x2 | with_reducible refine NatAt.ext ?_ x3 | with_reducible refine NatAt.ext ?_ xd | with_reducible refine NatAt.ext ?_ hx | with_reducible refine NatAt.ext ?_ hext)), NewInt.mk (N1.out.old (by first | (simp; done) | (simp; omega) | omega))⟩
theorem wmul_new {m1 m2 : Value} {x y : Int} {L : Nat} {w : World} (hX : NatAt w m1 x L) (hY : NatAt w m2 y L) (hL : L ≤ 23) :
    Calls Tryz.prog 227 #[m1, m2] w fun e w' => ∃ v, e = .returned v ∧ Ext w w' ∧ NatAt w' v (x * y) (2 * L) ∧ New w v := by
  have HX := Lib.hid hX
  have HY := Lib.hid hY
  obtain ⟨a1, k1, c1, rfl, l1, -⟩ := hX.form
  obtain ⟨a2, k2, c2, rfl, l2, -⟩ := hY.form
  have b1 : (k1 : Int) < 24 := by omega
  have b2 : (k2 : Int) < 24 := by omega
  have b3 : min (k1 : Int) (k2 : Int) < 24 := by omega
  clear hX hY l1 l2
  go_enter Tryz.func227, Tryz.ntmps227
  go_wp2_with fail
  refine (wschool_new HX.out HY.out (by omega)).mono ?_
  rintro e w' ⟨v, rfl, x1, h1, n1⟩
  have H1 := Lib.hid h1
  have N1 := Lib.hid n1
  clear h1 n1
  go_wp2
  go_ret
  exact ⟨_, rfl, x1, H1.out, N1.out⟩
set_option maxHeartbeats 1000000 in
theorem wMul_ref {u v : Value} {x y : Int} {L : Nat} {w : World} (hu : IntAt w u x L) (hv : IntAt w v y L) (hL : L ≤ 23) :
    Calls Tryz.prog 167 #[u, v] w fun e w' => ∃ q, e = .returned q ∧ Ext w w' ∧ IntAt w' q (x * y) (2 * L) ∧ NewInt w q := by
  obtain ⟨m1, rfl, hm1⟩ := hu.is
  obtain ⟨m2, rfl, hm2⟩ := hv.is
  obtain ⟨a1, k1, c1, rfl, -⟩ := hm1.form
  obtain ⟨a2, k2, c2, rfl, -⟩ := hm2.form
  have H1 := Lib.hid hm1
  have H2 := Lib.hid hm2
  have e1 : ((decide (x < 0) != decide (y < 0)) && decide (0 < mag x * mag y)) = decide (x * y < 0) := by rw [← sg_neg (Int.mul_nonneg (mag_nn x) (mag_nn y)), sg_mul]
  have e2 : mag (x * y) = mag x * mag y := by rw [← sg_mul, mag_sg (Int.mul_nonneg (mag_nn x) (mag_nn y))]
  have E1 := Lib.hid e1
  have E2 := Lib.hid e2
  clear hu hv hm1 hm2 e1 e2
  go_enter Tryz.func167, Tryz.ntmps167
  go_wp2_with fail
  go_region_held3 (fun w' => w'.cell? ⟨w.heap.size, 0, none⟩ = some (.bool (decide (x < 0))) ∧ w'.cell? ⟨w.heap.size, 1, none⟩ = some (.slice a1 k1 c1) ∧ w'.cell? ⟨w.heap.size + 1, 0, none⟩ = some (.bool (decide (y < 0))) ∧ w'.cell? ⟨w.heap.size + 1, 1, none⟩ = some (.slice a2 k2 c2) ∧ w.heap.size + 2 < w'.heap.size ∧ Ext w w')
    (refine ⟨?_, ?_, ?_, ?_, ?_, ?_⟩ <;> first | (simp [go_sem, *]; done) | omega | (simp at z1; omega) | (simp at z2; omega) | (simp at z3; omega) | (simp at z4; omega) | exact Ext.q)
    (first
      | ((go_at_call 227; refine (wmul_new (H1.out.ext Ext.q) (H2.out.ext Ext.q) hL).mono ?_; rintro e v1 ⟨q1, rfl, x1, h1⟩; obtain ⟨c1, f1⟩ := x1.rules; have z1 := x1.size; have lq := fun o => c1 (w.heap.size) o (by first | (simp; done) | (simp; omega) | omega); have mq := fun o => f1 (w.heap.size) o (by first | (simp; done) | (simp; omega) | omega); have k1_0_0 := lq 0; have q1_0_0 := mq 0; have k1_0_1 := lq 1; have q1_0_1 := mq 1; clear lq mq; have lq := fun o => c1 (w.heap.size + 1) o (by first | (simp; done) | (simp; omega) | omega); have mq := fun o => f1 (w.heap.size + 1) o (by first | (simp; done) | (simp; omega) | omega); have k1_1_0 := lq 0; have q1_1_0 := mq 0; have k1_1_1 := lq 1; have q1_1_1 := mq 1; clear lq mq; have lq := fun o => c1 (w.heap.size + 2) o (by first | (simp; done) | (simp; omega) | omega); have mq := fun o => f1 (w.heap.size + 2) o (by first | (simp; done) | (simp; omega) | omega); have k1_2_0 := lq 0; have q1_2_0 := mq 0; have k1_2_1 := lq 1; have q1_2_1 := mq 1; clear lq mq; have z1_0 : w.heap.size < v1.heap.size := (by (try simp at z1); omega); have z1_1 : w.heap.size + 1 < v1.heap.size := (by (try simp at z1); omega); have z1_2 : w.heap.size + 2 < v1.heap.size := (by (try simp at z1); omega); (try simp at z1); clear c1 f1; simp [go_sem, *] at k1_0_0 q1_0_0 k1_0_1 q1_0_1 k1_1_0 q1_1_0 k1_1_1 q1_1_1 k1_2_0 q1_2_0 k1_2_1 q1_2_1); obtain ⟨h1, n1⟩ := h1; have HH := Lib.hid h1; obtain ⟨a, k, cap, rfl, -⟩ := h1.form; have HN := Lib.hid n1; clear n1 h1)
      | (go_at_call 176; refine (wOf_raw _ HH.out _).mono ?_; rintro e v2 ⟨rfl, x2⟩; obtain ⟨c2, f2⟩ := x2.rules; have z2 := x2.size; have lq := fun o => c2 (w.heap.size) o (by first | (simp; done) | (simp; omega) | omega); have mq := fun o => f2 (w.heap.size) o (by first | (simp; done) | (simp; omega) | omega); have k2_0_0 := lq 0; have q2_0_0 := mq 0; have k2_0_1 := lq 1; have q2_0_1 := mq 1; clear lq mq; have lq := fun o => c2 (w.heap.size + 1) o (by first | (simp; done) | (simp; omega) | omega); have mq := fun o => f2 (w.heap.size + 1) o (by first | (simp; done) | (simp; omega) | omega); have k2_1_0 := lq 0; have q2_1_0 := mq 0; have k2_1_1 := lq 1; have q2_1_1 := mq 1; clear lq mq; have lq := fun o => c2 (w.heap.size + 2) o (by first | (simp; done) | (simp; omega) | omega); have mq := fun o => f2 (w.heap.size + 2) o (by first | (simp; done) | (simp; omega) | omega); have k2_2_0 := lq 0; have q2_2_0 := mq 0; have k2_2_1 := lq 1; have q2_2_1 := mq 1; clear lq mq; have z2_0 : w.heap.size < v2.heap.size := (by (try simp at z2); omega); have z2_1 : w.heap.size + 1 < v2.heap.size := (by (try simp at z2); omega); have z2_2 : w.heap.size + 2 < v2.heap.size := (by (try simp at z2); omega); (try simp at z2); clear c2 f2; simp [go_sem, *] at k2_0_0 q2_0_0 k2_0_1 q2_0_1 k2_1_0 q2_1_0 k2_1_1 q2_1_1 k2_2_0 q2_2_0 k2_2_1 q2_2_1))
  all_goals
    have O1 : Hid (Off (w.heap.size + 1 + 1) (.slice a k cap)) := Lib.hid (HN.out.off (by simp))
    have NW : Hid (New w (.slice a k cap)) := Lib.hid (fun b hb => by have := HN.out b hb; simp at this; omega)
    go_wp2
    simp [bodyPost, results, Tryz.results167, go_sem, *]
    refine ⟨⟨⟨_, by rw [← E1.out]; rfl, by rw [E2.out]; exact ((HH.out.ext Ext.q).off O1.out).off O1.out⟩⟩, fun s m e => ?_⟩
    simp at e
    rw [← e.2]; exact NW.out
set_option maxHeartbeats 1000000 in
theorem wRight_nn {u : Value} {x n : Int} {L : Nat} {w : World} (hu : IntAt w u x L) (hL : L ≤ 400000) (n0 : 0 ≤ n) (n1 : n ≤ 1000) (x0 : 0 ≤ x) :
    Calls Tryz.prog 268 #[u, .int .i64 n] w fun e w' => ∃ v, e = .returned v ∧ Ext w w' ∧ IntAt w' v (x / p2 n) L ∧ NewInt w v := by
  obtain ⟨a1, k1, c1, rfl, m1⟩ := hu.form
  have sx : decide (x < 0) = false := by simp; omega
  have em : mag x = x := mag_of x0
  have qn : 0 ≤ x / p2 n := Int.ediv_nonneg x0 (Int.le_of_lt (p2_pos n))
  have D := Lib.hid (fun (u : World) h => wright_new (q := n.toNat / 64) (s := n.toNat % 64) (n := n) (L := L) (x := x) (m := .slice a1 k1 c1) (w := u) h (by omega) (by omega) (by omega) (by omega))
  rw [pow_p2] at D
  have SQ := Lib.hid (show false = decide (x / p2 n < 0) by symm; simp; omega)
  have QM := Lib.hid (mag_of qn)
  rw [em] at m1
  have M1 := Lib.hid m1
  rw [sx]
  clear m1 hu sx em qn
  go_enter Tryz.func268, Tryz.ntmps268
  go_wp2_with fail; refine (D.out _ (M1.out.ext Ext.q)).mono ?_; rintro e v1 ⟨q1, rfl, x1, h1⟩; obtain ⟨c1, f1⟩ := x1.rules; have z1 := x1.size; have lq := fun o => c1 (w.heap.size) o (by first | (simp; done) | (simp; omega) | omega); have mq := fun o => f1 (w.heap.size) o (by first | (simp; done) | (simp; omega) | omega); have k1_0_0 := lq 0; have q1_0_0 := mq 0; have k1_0_1 := lq 1; have q1_0_1 := mq 1; clear lq mq; have lq := fun o => c1 (w.heap.size + 1) o (by first | (simp; done) | (simp; omega) | omega); have mq := fun o => f1 (w.heap.size + 1) o (by first | (simp; done) | (simp; omega) | omega); have k1_1_0 := lq 0; have q1_1_0 := mq 0; have k1_1_1 := lq 1; have q1_1_1 := mq 1; clear lq mq; have z1_0 : w.heap.size < v1.heap.size := (by (try simp at z1); omega); have z1_1 : w.heap.size + 1 < v1.heap.size := (by (try simp at z1); omega); (try simp at z1); clear c1 f1; simp [go_sem, *] at k1_0_0 q1_0_0 k1_0_1 q1_0_1 k1_1_0 q1_1_0 k1_1_1 q1_1_1
  obtain ⟨h1, n1⟩ := h1
  have H1 := Lib.hid h1
  have N1 := Lib.hid n1
  obtain ⟨a3, k3, c3, rfl, -⟩ := h1.form
  clear h1 n1
  go_wp2_with fail
  go_quiet (fail)
  all_goals
   go_wp2_with fail; refine (wOf_raw false H1.out _).mono ?_; rintro e v2 ⟨rfl, x2⟩; obtain ⟨c2, f2⟩ := x2.rules; have z2 := x2.size; have lq := fun o => c2 (w.heap.size) o (by first | (simp; done) | (simp; omega) | omega); have mq := fun o => f2 (w.heap.size) o (by first | (simp; done) | (simp; omega) | omega); have k2_0_0 := lq 0; have q2_0_0 := mq 0; have k2_0_1 := lq 1; have q2_0_1 := mq 1; clear lq mq; have lq := fun o => c2 (w.heap.size + 1) o (by first | (simp; done) | (simp; omega) | omega); have mq := fun o => f2 (w.heap.size + 1) o (by first | (simp; done) | (simp; omega) | omega); have k2_1_0 := lq 0; have q2_1_0 := mq 0; have k2_1_1 := lq 1; have q2_1_1 := mq 1; clear lq mq; have z2_0 : w.heap.size < v2.heap.size := (by (try simp at z2); omega); have z2_1 : w.heap.size + 1 < v2.heap.size := (by (try simp at z2); omega); (try simp at z2); clear c2 f2; simp [go_sem, *] at k2_0_0 q2_0_0 k2_0_1 q2_0_1 k2_1_0 q2_1_0 k2_1_1 q2_1_1; (try clear k1_0_0); (try clear q1_0_0); (try clear k1_0_1); (try clear q1_0_1); (try clear k1_1_0); (try clear q1_1_0); (try clear k1_1_1); (try clear q1_1_1)
   go_wp2
   simp [bodyPost, results, Tryz.results268, go_sem, *]
   have O1 := Lib.hid (N1.out.off (g := w.heap.size + 1) (by simp))
   have HQ := Lib.hid (show NatAt v1 (.slice a3 k3 c3) (mag (x / p2 n)) L by rw [QM.out]; exact H1.out)
   exact ⟨Ext.q, IntAt.of SQ.out (by repeat (first | with_reducible exact HQ.out | with_reducible refine NatAt.alloc' ?_ | with_reducible refine NatAt.drew' ?_ | with_reducible refine NatAt.drewN' ?_ | with_reducible refine NatAt.off ?_ O1.out | with_reducible refine NatAt.ext ?_ x1 | with_reducible refine NatAt.ext ?_ x2 | with_reducible refine NatAt.ext ?_ x3 | with_reducible refine NatAt.ext ?_ xd | with_reducible refine NatAt.ext ?_ hx | with_reducible refine NatAt.ext ?_ hext)), NewInt.mk (N1.out.old (by first | (simp; done) | (simp; omega) | omega))⟩
end Go.Proofs.YtkegefnpmijfiaaGreat
namespace Go.Proofs.YtkegefnpmijfiaaGreat
open Go.RowKit
theorem wEven_ref {u : Value} {x : Int} {L : Nat} {w : World} (hu : IntAt w u x L) (x0 : 0 ≤ x) :
    Calls Tryz.prog 230 #[u] w fun e w' => e = .returned (.bool (decide (x % 2 = 0))) ∧ Ext w w' := by
  obtain ⟨a1, k1, c1, rfl, m1⟩ := hu.form
  rw [mag_of x0] at m1
  have sx : decide (x < 0) = false := by simp; omega
  rw [sx]
  obtain ⟨xs, ⟨ax, capx, e1, g1, g2, g3⟩, dX, nX, ex, lX⟩ := m1.is
  simp only [Value.slice.injEq] at e1
  obtain ⟨rfl, rfl, rfl⟩ := e1
  clear m1 hu sx lX nX g1 g2
  by_cases h0 : xs = []
  · subst h0
    have hx : x = 0 := by simpa [val] using ex.symm
    subst hx
    clear ex g3 dX
    go_enter Tryz.func230, Tryz.ntmps230
    go_wp2
    go_ret
    exact ⟨rfl, Ext.q⟩
  · obtain ⟨b, o, rfl, hc⟩ := g3 h0
    have hpos : 0 < xs.length := List.length_pos_iff.2 h0
    have cx := hc 0 hpos
    rw [Nat.add_zero] at cx
    have hbx : b < w.heap.size := cell_lt cx
    obtain ⟨d0, d1⟩ := dX.at 0 hpos
    unfold B64 at d1
    have e2 : x % 2 = xs.getD 0 0 % 2 := by
      cases xs with
      | nil => exact absurd rfl h0
      | cons d ds => rw [← ex]; simp [val, B64]; omega
    rw [e2]
    have nb : ((xs.length : Int) == 0) = false := by rw [beq_eq_false_iff_ne]; omega
    have nz2 : (0 : Int) < (xs.length : Int) := by omega
    clear ex g3 dX hc h0 e2 hpos
    generalize xs.getD 0 0 = d at *
    have tm : d.tmod 2 = d % 2 := Int.tmod_eq_emod_of_nonneg d0
    go_enter Tryz.func230, Tryz.ntmps230
    go_wp2
    go_ret
    exact ⟨by rw [show decide (d % 2 = 0) = (d % 2 == 0) by by_cases h : d % 2 = 0 <;> simp [h]]; rfl, Ext.q⟩
set_option maxHeartbeats 1000000 in
theorem wLen_ref {u : Value} {x : Int} {L : Nat} {w : World} (hu : IntAt w u x L) (x0 : 0 ≤ x) (hL : L ≤ 1000000) :
    Calls Tryz.prog 274 #[u] w fun e w' => ∃ l : Nat, e = .returned (.int .i64 l) ∧ Ext w w' ∧ BitLen x l := by
  obtain ⟨a1, k1, c1, rfl, m1⟩ := hu.form
  rw [mag_of x0] at m1
  have sx : decide (x < 0) = false := by simp; omega
  rw [sx]
  obtain ⟨xs, ⟨ax, capx, e1, g1, g2, g3⟩, dX, nX, ex, lX⟩ := m1.is
  simp only [Value.slice.injEq] at e1
  obtain ⟨rfl, rfl, rfl⟩ := e1
  clear m1 hu sx g1 g2
  by_cases h0 : xs = []
  · subst h0
    have hx : x = 0 := by simpa [val] using ex.symm
    subst hx
    clear ex g3 dX nX lX
    go_enter Tryz.func274, Tryz.ntmps274
    go_wp2
    go_ret
    exact ⟨0, rfl, Ext.q, by simp [BitLen]⟩
  · obtain ⟨b, o, rfl, hc⟩ := g3 h0
    have hpos : 0 < xs.length := List.length_pos_iff.2 h0
    have cx := hc (xs.length - 1) (by omega)
    have hbx : b < w.heap.size := cell_lt cx
    obtain ⟨d0, d1⟩ := dX.at (xs.length - 1) (by omega)
    unfold B64 at d1
    have ht : xs.getD (xs.length - 1) 0 ≠ 0 := by
      rcases nX with h | h
      · exact absurd h h0
      · exact h
    have bl := blen_lt _ d0 d1
    have b1 : 0 < blen (xs.getD (xs.length - 1) 0) := by
      have := blen_ge (xs.getD (xs.length - 1) 0) 0 (by omega) (by rw [Int.pow_zero]; omega) d1
      simpa using this
    have b64 := blen_le (xs.getD (xs.length - 1) 0) 64 (Nat.le_refl _) (by simpa using d1)
    have bg : 2 ^ ((blen (xs.getD (xs.length - 1) 0)).toNat - 1) ≤ xs.getD (xs.length - 1) 0 := by
      rcases Int.lt_or_le (xs.getD (xs.length - 1) 0) (2 ^ ((blen (xs.getD (xs.length - 1) 0)).toNat - 1)) with h | h
      · have := blen_le _ _ (by omega) h; omega
      · exact h
    have BL : Hid (BitLen x (64 * (xs.length - 1) + (blen (xs.getD (xs.length - 1) 0)).toNat)) := Lib.hid (by
      rw [← ex]
      refine bitlen_top dX hpos (Int.ediv_eq_zero_of_lt d0 bl) ?_ (by omega)
      have := Int.le_ediv_of_mul_le (pow_pos' ((blen (xs.getD (xs.length - 1) 0)).toNat - 1)) (show 1 * 2 ^ ((blen (xs.getD (xs.length - 1) 0)).toNat - 1) ≤ xs.getD (xs.length - 1) 0 by rw [Int.one_mul]; exact bg)
      omega)
    have LN := Lib.hid (fun u => len64_any (xs.getD (xs.length - 1) 0) u d0 d1)
    have nb : ((xs.length : Int) == 0) = false := by rw [beq_eq_false_iff_ne]; omega
    have en : ((xs.length - 1 : Nat) : Int) = (xs.length : Int) - 1 := by omega
    have nx : (xs.length : Int) - 1 < (xs.length : Int) := by omega
    have nx0 : (0 : Int) ≤ (xs.length : Int) - 1 := by omega
    have nt : ((xs.length : Int) - 1).toNat = xs.length - 1 := by omega
    clear ex g3 dX hc h0 hpos ht bl bg nX
    generalize xs.getD (xs.length - 1) 0 = d at *
    generalize hbl : blen d = bl at *
    have w1 : IntKind.i64.wrap ((xs.length : Int) - 1) = (xs.length : Int) - 1 := by rw [IntKind.wrap_i64]; omega
    have w2 : IntKind.i64.wrap (64 * ((xs.length : Int) - 1)) = 64 * ((xs.length : Int) - 1) := by rw [IntKind.wrap_i64]; omega
    have w3 : IntKind.i64.wrap (64 * ((xs.length : Int) - 1) + bl) = 64 * ((xs.length : Int) - 1) + bl := by rw [IntKind.wrap_i64]; omega
    have fin : 64 * ((xs.length : Int) - 1) + bl = ((64 * (xs.length - 1) + bl.toNat : Nat) : Int) := by omega
    have FIN := Lib.hid fin
    clear hbl fin en
    go_enter Tryz.func274, Tryz.ntmps274
    go_wp2_with fail
    go_quiet (first | (go_at_call 285; exact Calls.quiet_of_same ((LN.out _).mono (fun _ _ ⟨h, k⟩ => ⟨h, k.symm⟩))))
    go_wp2
    go_ret
    exact ⟨_, by rw [← FIN.out]; rfl, Ext.q, BL.out⟩
end Go.Proofs.YtkegefnpmijfiaaGreat
namespace Go.Proofs.YtkegefnpmijfiaaGreat
/-- x is not below the root of n. -/
def Above (n x : Int) : Prop := 0 < x ∧ n < (x + 1) * (x + 1)
/-- x is the root, rounded down. -/
def IsRoot (n x : Int) : Prop := 0 ≤ x ∧ x * x ≤ n ∧ n < (x + 1) * (x + 1)
theorem sq_le {a b : Int} (h0 : 0 ≤ a) (h : a ≤ b) : a * a ≤ b * b := Int.mul_le_mul h h h0 (by omega)
theorem amgm (a b : Int) : 4 * (a * b) ≤ (a + b) * (a + b) := by
  have h : 0 ≤ (a - b) * (a - b) := by
    rcases Int.le_total 0 (a - b) with h | h
    · exact Int.mul_nonneg h h
    · exact Int.mul_nonneg_of_nonpos_of_nonpos h h
  have e1 : (a - b) * (a - b) = a * a - a * b - (a * b - b * b) := by
    rw [Int.sub_mul, Int.mul_sub, Int.mul_sub, Int.mul_comm b a]
  have e2 : (a + b) * (a + b) = a * a + a * b + (a * b + b * b) := by
    rw [Int.add_mul, Int.mul_add, Int.mul_add, Int.mul_comm b a]
  omega
theorem newton_stop {n x : Int} (h : Above n x) (hs : x ≤ (x + n / x) / 2) : IsRoot n x := by
  obtain ⟨x0, h1⟩ := h
  have q : x ≤ n / x := by omega
  have := Int.mul_le_of_le_ediv x0 q
  exact ⟨by omega, this, h1⟩
theorem newton_step {n x : Int} (h : Above n x) (n0 : 0 < n) (_hs : (x + n / x) / 2 < x) : Above n ((x + n / x) / 2) := by
  obtain ⟨x0, h1⟩ := h
  have q0 : 0 ≤ n / x := Int.ediv_nonneg (by omega) (by omega)
  have hn : n < (n / x + 1) * x := Int.lt_mul_of_ediv_lt x0 (Int.lt_succ _)
  generalize hq : n / x = q at *
  have hy : x + (q + 1) ≤ 2 * ((x + q) / 2 + 1) := by omega
  have y0 : 0 < (x + q) / 2 := by
    rcases Int.lt_or_le 1 x with h | h
    · omega
    · obtain rfl : x = 1 := by omega
      have : q = n := by rw [← hq, Int.ediv_one]
      omega
  refine ⟨y0, ?_⟩
  have a := sq_le (by omega) hy
  have b := amgm x (q + 1)
  generalize (x + q) / 2 + 1 = y at *
  have e : 2 * y * (2 * y) = 4 * (y * y) := by rw [Int.mul_assoc, Int.mul_left_comm y 2 y, ← Int.mul_assoc]; omega
  rw [e] at a
  rw [Int.mul_comm (q + 1) x] at hn
  omega
theorem newton_start {n : Int} {l : Nat} (h : n < 2 ^ l) : Above n (2 ^ (l / 2 + 1)) := by
  have p := pow_pos' (l / 2 + 1)
  refine ⟨p, ?_⟩
  have e : (2 : Int) ^ (l / 2 + 1) * 2 ^ (l / 2 + 1) = 2 ^ (l / 2 + 1 + (l / 2 + 1)) := (Int.pow_add _ _ _).symm
  have m := pow_mono' (show (1 : Int) ≤ 2 by omega) (show l ≤ l / 2 + 1 + (l / 2 + 1) by omega)
  have s := sq_le (Int.le_of_lt p) (show (2 : Int) ^ (l / 2 + 1) ≤ 2 ^ (l / 2 + 1) + 1 by omega)
  omega
end Go.Proofs.YtkegefnpmijfiaaGreat
