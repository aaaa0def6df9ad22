/- ref90: NDivide. ref90: NGcd. ref90: Int, first part. ref90: Int, Times, Plus. ref90: Int, Plus, Less, Cmp. ref90: Int, Less, Cmp. -/
import Derived.Test.YtkegefnpmijfiaaGreatQNat2
import Derived.Test.YtkegefnpmijfiaaGreatQFx
import Derived.Deep.RegionHeld3
import Derived.Deep.LoopGhost
namespace Go.Proofs.YtkegefnpmijfiaaGreat
open Go.RowKit
structure DvRel (x y : Int) (n k : Nat) (R : Int) (qs : List Int) : Prop where
  len : qs.length = n / 64 + 1
  digs : Digs B64 qs
  r0 : 0 ≤ R
  r1 : R < y * 2 ^ k
  low : ∀ j, 64 * j < k → qs.getD j 0 % 2 ^ (min (k - 64 * j) 64) = 0
  is : x = R + y * val B64 qs
theorem mod_le {d : Int} {a b : Nat} (h : d % 2 ^ b = 0) (hab : a ≤ b) : d % 2 ^ a = 0 := by
  apply Int.emod_eq_zero_of_dvd
  refine Int.dvd_trans ?_ (Int.dvd_of_emod_eq_zero h)
  obtain ⟨c, rfl⟩ := Nat.exists_eq_add_of_le hab
  rw [Int.pow_add]; exact Int.dvd_mul_right _ _
theorem add_le_of_mod {D P B : Int} (hP : 0 < P) (h1 : D % P = 0) (h2 : B % P = 0) (h : D < B) : D + P ≤ B := by
  obtain ⟨a, rfl⟩ := Int.dvd_of_emod_eq_zero h1
  obtain ⟨b, rfl⟩ := Int.dvd_of_emod_eq_zero h2
  have hab : a < b := Int.lt_of_mul_lt_mul_left h (Int.le_of_lt hP)
  have := Int.mul_le_mul_of_nonneg_left (show a + 1 ≤ b by omega) (Int.le_of_lt hP)
  rw [Int.mul_add, Int.mul_one] at this
  exact this
theorem DvRel.no {x y R : Int} {n i : Nat} {qs : List Int} (h : DvRel x y n (i + 1) R qs) (hr : R < y * 2 ^ i) : DvRel x y n i R qs :=
  ⟨h.len, h.digs, h.r0, hr, fun j hj => mod_le (h.low j (by omega)) (by omega), h.is⟩
theorem DvRel.digit {x y R : Int} {n i : Nat} {qs : List Int} (h : DvRel x y n (i + 1) R qs) (hi : i ≤ n) :
    0 ≤ qs.getD (i / 64) 0 ∧ qs.getD (i / 64) 0 + 2 ^ (i % 64) < 18446744073709551616 ∧ bits .or .u64 (qs.getD (i / 64) 0) (2 ^ (i % 64)) = qs.getD (i / 64) 0 + 2 ^ (i % 64) ∧ qs.getD (i / 64) 0 % 2 ^ (i % 64 + 1) = 0 := by
  have hl := h.low (i / 64) (by omega)
  rw [show min (i + 1 - 64 * (i / 64)) 64 = i % 64 + 1 by omega] at hl
  obtain ⟨d0, d1⟩ := h.digs.at (i / 64) (by rw [h.len]; have := Nat.div_le_div_right (c := 64) hi; omega)
  generalize qs.getD (i / 64) 0 = D at *
  generalize hs : i % 64 = s at *
  have hs' : s < 64 := by omega
  have p := pow_pos' s
  have e : (2 : Int) ^ (s + 1) = 2 ^ s * 2 := Int.pow_succ 2 s
  have p2 := pow_mono' (show (1 : Int) ≤ 2 by omega) (show s + 1 ≤ 64 by omega)
  have hb : B64 % 2 ^ (s + 1) = 0 := by
    apply Int.emod_eq_zero_of_dvd
    exact ⟨2 ^ (64 - (s + 1)), (pow_split (s + 1) (by omega)).symm⟩
  have h3 := add_le_of_mod (pow_pos' (s + 1)) hl hb d1
  unfold B64 at h3 d1
  refine ⟨d0, by omega, ?_, hl⟩
  exact or_disj D (2 ^ s) (s + 1) d0 (by omega) (by omega) hl d1 (by omega)
theorem DvRel.yes {x y R : Int} {n i : Nat} {qs : List Int} (h : DvRel x y n (i + 1) R qs) (hi : i ≤ n) (hr : y * 2 ^ i ≤ R) :
    DvRel x y n i (R - y * 2 ^ i) (qs.set (i / 64) (qs.getD (i / 64) 0 + 2 ^ (i % 64))) := by
  obtain ⟨d0, d1, _, d3⟩ := h.digit hi
  have hlen : i / 64 < qs.length := by rw [h.len]; have := Nat.div_le_div_right (c := 64) hi; omega
  have p := pow_pos' (i % 64)
  refine ⟨by simp [h.len], h.digs.set _ (by omega) (by unfold B64; exact d1), by omega, ?_, fun j hj => ?_, ?_⟩
  · have := h.r1
    rw [Int.pow_succ] at this
    have e : y * (2 ^ i * 2) = y * 2 ^ i + y * 2 ^ i := by rw [← Int.mul_assoc]; omega
    omega
  · by_cases hj2 : i / 64 = j
    · subst hj2
      rw [getD_set_same _ _ _ hlen, show min (i - 64 * (i / 64)) 64 = i % 64 by omega]
      have := mod_le d3 (show i % 64 ≤ i % 64 + 1 by omega)
      rw [Int.add_emod, this, Int.emod_self]; simp
    · rw [getD_set_ne _ _ _ _ hj2]
      exact mod_le (h.low j (by omega)) (by omega)
  · rw [val_set _ _ _ _ hlen, show qs.getD (i / 64) 0 + 2 ^ (i % 64) - qs.getD (i / 64) 0 = 2 ^ (i % 64) by omega, Int.mul_add, b64_pow, ← Int.pow_add, show i % 64 + 64 * (i / 64) = i by omega]
    have := h.is
    omega
theorem DvRel.start {x y : Int} {lx ly : Nat} (hx : BitLen x lx) (hy : BitLen y ly) (x0 : 0 ≤ x) (y0 : 0 < y) (hl : ly ≤ lx) : DvRel x y (lx - ly) (lx - ly + 1) x (List.replicate ((lx - ly) / 64 + 1) 0) := by
  have z : ∀ j, (List.replicate ((lx - ly) / 64 + 1) (0 : Int)).getD j 0 = 0 := fun j => by
    rw [List.getD_eq_getElem?_getD, List.getElem?_replicate]; split <;> rfl
  refine ⟨by simp, fun d hd => ?_, x0, ?_, fun j _ => by rw [z]; simp, ?_⟩
  · have := List.eq_of_mem_replicate hd; subst this; exact ⟨Int.le_refl _, by decide⟩
  · have hly : 0 < ly := by
      rcases Nat.eq_zero_or_pos ly with h | h
      · subst h; have := hy.1; simp at this; omega
      · exact h
    have h1 := hx.1
    have h2 : 2 ^ (ly - 1) ≤ y := hy.2.resolve_left (by omega)
    have h3 := Int.mul_le_mul_of_nonneg_right h2 (Int.le_of_lt (pow_pos' (lx - ly + 1)))
    rw [← Int.pow_add, show ly - 1 + (lx - ly + 1) = lx by omega] at h3
    omega
  · rw [val_zeros _ _ (fun j _ => z j)]; simp
theorem DvRel.fin {x y R : Int} {n : Nat} {qs : List Int} (h : DvRel x y n 0 R qs) (y0 : 0 < y) : x / y = val B64 qs ∧ x % y = R := by
  have r1 := h.r1
  have r0 := h.r0
  rw [Int.pow_zero, Int.mul_one] at r1
  have e := h.is
  constructor
  · rw [e, Int.add_mul_ediv_left _ _ (by omega), Int.ediv_eq_zero_of_lt r0 r1, Int.zero_add]
  · rw [e, Int.add_mul_emod_self_left, Int.emod_eq_of_lt r0 r1]
theorem Ext.owns {w w' : World} (x : Ext w w') {base : Nat} {e : TypeId} {size : Nat} {g n cap m : Nat} {xs : List Value} (h : w.ownsRow base e size (.slice (some ⟨g, 0, none⟩) n cap) m xs) : w'.ownsRow base e size (.slice (some ⟨g, 0, none⟩) n cap) m xs :=
  h.kept (row := none) ⟨x.os, x.tape, x.output, x.size, fun k hk _ => x.block k hk⟩ (.inr (by simp [Value.ownBlock]))
/-- v's row, if it has one, is not block g. -/
def Off (g : Nat) (v : Value) : Prop := ∀ a n c, v = .slice (some a) n c → 0 < n → a.block ≠ g
theorem NatAt.off {w : World} {v : Value} {x : Int} {L g o : Nat} {u : Value} (h : NatAt w v x L) (hv : Off g v) : NatAt (w.setCell ⟨g, o, none⟩ u) v x L := by
  obtain ⟨ds, ⟨a, cap, rfl, h1, h2, h3⟩, rest⟩ := h.is
  refine ⟨⟨ds, ⟨a, cap, rfl, h1, h2, fun hn => ?_⟩, rest⟩⟩
  obtain ⟨b, o', rfl, hc⟩ := h3 hn
  refine ⟨b, o', rfl, fun i hi => ?_⟩
  rw [cell_set_far _ _ _ _ _ _ (fun e => hv _ _ _ rfl (List.length_pos_iff.2 hn) e.symm)]
  exact hc i hi
theorem NatAt.old {w : World} {v : Value} {x : Int} {L g : Nat} (h : NatAt w v x L) (hg : w.heap.size ≤ g) : Off g v := by
  obtain ⟨ds, ⟨a, cap, rfl, h1, h2, h3⟩, rest⟩ := h.is
  intro a' n c e hn
  simp only [Value.slice.injEq] at e
  obtain ⟨rfl, rfl, rfl⟩ := e
  obtain ⟨b, o', e, hc⟩ := h3 (List.length_pos_iff.1 hn)
  simp only [Option.some.injEq] at e
  subst e
  have := cell_lt (hc 0 hn)
  simp at this ⊢; omega
theorem New.off {w : World} {v : Value} {g : Nat} (h : New w v) (hg : g < w.heap.size) : Off g v := by
  intro a n c e _
  subst e
  have := h a.block rfl
  omega
theorem half_pow (y : Int) (k : Nat) : y * 2 ^ (k + 1) / 2 = y * 2 ^ k := by
  rw [Int.pow_succ, ← Int.mul_assoc]; omega
theorem half_again (y : Int) (i : Nat) : y * 2 ^ (i + 1) / 2 / 2 ^ (64 * 0 + 1) = y * 2 ^ i / 2 := by
  rw [half_pow]; rfl
theorem Int.emod_le_of_nonneg' {x y : Int} (hx : 0 ≤ x) (hy : 0 < y) : x % y ≤ x := by
  rcases Int.lt_or_le x y with h | h
  · rw [Int.emod_eq_of_lt hx h]; exact Int.le_refl _
  · have := Int.emod_lt_of_pos x hy; omega
theorem HalfAt.one {w : World} {v : Value} {x : Int} {L : Nat} (h : HalfAt w v x L) : ∃ n cap a, v = .slice a n cap ∧ n ≤ L ∧ (n = 1 → ∃ b o, a = some ⟨b, o, none⟩ ∧ w.cell? ⟨b, o, none⟩ = some (.int .u32 x) ∧ 0 < x ∧ x < 4294967296) := by
  obtain ⟨ds, hr, hd, hn, rfl, hl⟩ := h.is
  obtain ⟨a, cap, rfl, h1, h2, h3⟩ := hr
  refine ⟨_, cap, a, rfl, hl, fun h => ?_⟩
  obtain ⟨d, rfl⟩ := List.length_eq_one_iff.1 h
  obtain ⟨b, o, rfl, hc⟩ := h3 (by simp)
  have h0 := hd d (by simp)
  have hc0 := hc 0 (by simp)
  have hd0 : d ≠ 0 := by rcases hn with hn | hn <;> simp at hn; exact hn
  refine ⟨b, o, rfl, by simpa [val] using hc0, ?_, ?_⟩ <;> simp only [val] <;> unfold B32 at h0 <;> omega
theorem NatAt.small {w : World} {v : Value} {x : Int} {L k : Nat} (h : NatAt w v x L) (hx : x < 2 ^ (64 * k)) : NatAt w v x k := by
  obtain ⟨ds, h1, h2, h3, rfl, h5⟩ := h.is
  refine ⟨⟨ds, h1, h2, h3, rfl, ?_⟩⟩
  by_cases h0 : ds = []
  · subst h0; exact Nat.zero_le _
  · have h6 := val_top (by decide) h2 h3 h0
    rw [b64_pow] at h6
    rcases Nat.lt_or_ge k ds.length with h7 | h7
    · have := pow_mono' (show (1 : Int) ≤ 2 by omega) (show 64 * k ≤ 64 * (ds.length - 1) by omega)
      omega
    · exact h7
theorem NatAt.lt {w : World} {v : Value} {x : Int} {L : Nat} (h : NatAt w v x L) : x < 2 ^ (64 * L) := by
  obtain ⟨ds, h1, h2, h3, rfl, h5⟩ := h.is
  have h6 := (val_bd (by decide) ds h2).2
  rw [b64_pow] at h6
  have := pow_mono' (show (1 : Int) ≤ 2 by omega) (show 64 * ds.length ≤ 64 * L by omega)
  omega
theorem NatAt.bits {w : World} {v : Value} {x : Int} {L l : Nat} (h : NatAt w v x L) (hl : BitLen x l) : l ≤ 64 * L := by
  rcases hl.2 with h1 | h1
  · omega
  · have h2 := h.lt
    rcases Nat.lt_or_ge (64 * L) l with h3 | h3
    · have := pow_mono' (show (1 : Int) ≤ 2 by omega) (show 64 * L ≤ l - 1 by omega)
      omega
    · exact h3
set_option maxHeartbeats 2000000 in
set_option maxRecDepth 100000 in
theorem NDivide_new {m1 m2 : Value} {x y : Int} {L : Nat} {w : World} (hX : NatAt w m1 x L) (hY : NatAt w m2 y L) (hy0 : 0 < y) (hL : L ≤ 100000) :
    Calls Tryz.prog 221 #[m1, m2] w fun e w' => ∃ q r, e = .returned (.tuple #[q, r]) ∧ Ext w w' ∧ NatAt w' q (x / y) L ∧ NatAt w' r (x % y) L ∧ New w q := by
  obtain ⟨i0, hi0, hz0, hz1, hz2⟩ := info_parts info64
  go_enter Tryz.func221, Tryz.ntmps221
  go_wp2_with fail
  refine (halves_any hY (by omega)).mono ?_
  rintro e v1 ⟨r1, rfl, x1, hh⟩
  obtain ⟨n1, cap1, a1, rfl, hn1, hone⟩ := hh.one
  by_cases h1 : n1 = 1
  · obtain ⟨b1, o1, rfl, hc1, y0, y1⟩ := hone h1
    subst h1
    clear hone hh
    have HX := Lib.hid hX
    clear hX hY
    go_wp2_with fail
    go_region_held3 (fun w' => w'.cell? ⟨b1, o1, none⟩ = some (.int .u32 y) ∧ v1.heap.size ≤ w'.heap.size ∧ Ext w w')
      (refine ⟨?_, ?_, ?_⟩ <;> first | (simp [go_sem, *]; done) | omega | (simp at z1; omega) | (simp at z2; omega) | (simp at z3; omega) | (simp at z4; omega) | exact Ext.q)
      (first
        | (go_at_call 217; refine (halves_any (HX.out.ext Ext.q) (by omega)).mono ?_; rintro e v2 ⟨h2, rfl, x2, hh2⟩; have k2 : v2.cell? ⟨b1, o1, none⟩ = some (.int .u32 y) := x2.cell (by simp [go_sem, *]); have z2 := x2.size; (try simp at z2))
        | (go_at_call 240; refine (short_any (hh2.ext Ext.q) (by omega) y0 y1).mono ?_; rintro e v3 ⟨q3, rfl, x3, hq3⟩; have k3 : v3.cell? ⟨b1, o1, none⟩ = some (.int .u32 y) := x3.cell (by simp [go_sem, *]); have z3 := x3.size; (try simp at z3)))
    obtain ⟨qs, hqr, hqd, hqn, hqv, hql⟩ := hq3.is
    have HQ := Lib.hid hqd
    have HV := Lib.hid hqv
    have m0 : 0 ≤ x % y := Int.emod_nonneg _ (by omega)
    have m1' : x % y < y := Int.emod_lt_of_pos _ y0
    clear hq3 hqn hqv hqd hh2
    go_wp2_with fail
    refine (whole_new hqr HQ.out (by omega)).mono ?_
    rintro e v4 ⟨q4, rfl, x4, h4, hnew⟩
    have xw : Ext w v3 := Ext.q
    have HN : Hid (New w q4) := Lib.hid (fun b hb => Nat.le_trans xw.size (hnew b hb))
    clear hnew xw
    rw [HV.out] at h4
    have H4 := Lib.hid h4
    clear h4 hqr
    go_wp2_with fail
    refine (NOf_any (x % y) _ m0 (by omega)).mono ?_
    rintro e v5 ⟨r5, rfl, x5, h5⟩
    have H5 := Lib.hid h5
    clear h5
    go_wp2
    go_ret2
    exact ⟨_, _, rfl, Ext.q, (H4.out.ext x5).mono (by omega), H5.out.mono (by omega), HN.out⟩
  · have nb : ((n1 : Int) == 1) = false := by rw [beq_eq_false_iff_ne]; omega
    have hX1 := hX.ext x1
    have hY1 := hY.ext x1
    have x0 := hX.nn
    have HXL := Lib.hid hX.lt
    clear hone hh h1 hX hY
    go_wp2_with fail
    refine (NLen_any hX1 (by omega)).mono ?_
    rintro e w' ⟨lx, rfl, rfl, hlx⟩
    go_wp2_with fail
    refine (NLen_any hY1 (by omega)).mono ?_
    rintro e w' ⟨ly, rfl, rfl, hly⟩
    have bx := hX1.bits hlx
    have by' := hY1.bits hly
    rcases Nat.lt_or_ge lx ly with hl | hl
    · have hxy : x < y := by
        have a := hlx.1
        have b := hly.2.resolve_left (by omega)
        have := pow_mono' (show (1 : Int) ≤ 2 by omega) (show lx ≤ ly - 1 by omega)
        omega
      have H1 : Hid (NatAt v1 m1 (x % y) L) := Lib.hid (by rw [Int.emod_eq_of_lt x0 hxy]; exact hX1)
      have H0 : Hid (NatAt v1 (.slice none 0 0) (x / y) L) := Lib.hid (by rw [Int.ediv_eq_zero_of_lt x0 hxy]; exact ⟨⟨[], Row.nil _ _, (fun d hd => absurd hd (by simp)), Or.inl rfl, rfl, Nat.zero_le _⟩⟩)
      have hlt : (lx : Int) - (ly : Int) < 0 := by omega
      clear hX1 hY1 hlx hly hxy
      go_wp2
      go_ret2
      exact ⟨_, _, rfl, x1, H0.out, H1.out, fun b hb => by cases hb⟩
    · have HS := Lib.hid (DvRel.start hlx hly x0 hy0 hl)
      obtain ⟨n, hn⟩ : ∃ n, n = lx - ly := ⟨_, rfl⟩
      have en : (lx : Int) - (ly : Int) = (n : Int) := by omega
      have hnL : n ≤ 64 * L := by omega
      rw [← hn] at HS
      clear hn hlx hly bx by'
      have nq : (n : Int).tdiv 64 = ((n / 64 : Nat) : Int) := by rw [Int.tdiv_eq_ediv_of_nonneg (by omega)]; omega
      obtain ⟨s0, hs0⟩ : ∃ s0, s0 = n % 64 := ⟨_, rfl⟩
      have HS0 : Hid ((n : Int) = 64 * ((n / 64 : Nat) : Int) + (s0 : Int) ∧ s0 < 64 ∧ 64 * (n / 64) + s0 = n) := Lib.hid (by omega)
      have hjL : n / 64 ≤ L := by omega
      have hg1 : v1.heap.size = v1.heap.size := rfl
      have O1 := hX1.old (Nat.le_refl _)
      clear hs0 hg1
      generalize hj : n / 64 = j at nq HS0 hjL
      have HJ := Lib.hid hj
      clear hj
      go_wp2_with (at_make; refine wpList_make_full _ rfl _ _ 112 rfl v1.heap.size 59 i0 _ 1 Tryz.underlying112 hi0 hz0 hz1 _ _ _ _ (j + 1) rfl rfl (by omega) (by omega) (by rw [hz2]; omega) (by unfold maxLen; omega) (Nat.le_refl _) ?_; intro v3 hown0 hgrow0)
      have hownA : v3.ownsRow v1.heap.size 59 1 (.slice (some ⟨v1.heap.size, 0, none⟩) (j + 1) (j + 1)) (j + 1) ((List.replicate (j + 1) (0 : Int)).map (Value.int .u64)) := by
        rw [List.map_replicate]; have h := hown0; rw [Nat.mul_one, show (Value.int .u64 0).cells = #[.int .u64 0] from rfl, toList_madeCells_one] at h; exact h
      have x3 : Ext v1 v3 := Ext.grown (Ext.refl _) hgrow0 (fun r hr => by cases hr)
      have lt3 := (hownA.lt _ rfl).2
      have HA := Lib.hid hownA
      clear hown0 hgrow0 hownA
      refine (Up2_new (q := j) (s := s0) (hY1.ext x3) (by omega) (by omega) HS0.out.2.1 HS0.out.1).mono ?_
      rintro e v4 ⟨dv, rfl, x4, hd4, new4⟩
      rw [HS0.out.2.2, ← half_pow] at hd4
      have O4 := new4.off lt3
      have HD4 := Lib.hid (hd4.mono (show L + j + 1 ≤ 2 * L + 1 by omega))
      have HR4 := Lib.hid ((hX1.ext (x3.tr x4)).mono (show L ≤ 2 * L + 1 by omega))
      have HO1 := Lib.hid O1
      have HO4 := Lib.hid O4
      have HA4 := Lib.hid (x4.owns HA.out)
      have x14 := x1.tr (x3.tr x4)
      rw [HJ.out] at HS
      clear hd4 new4 O1 O4 hX1 hY1 HA HS0
      go_wp2_with fail
      go_loopw [11, 12, 13] (fun rv dv iv wr => ∃ (k : Nat) (z R : Int) (qs : List Int), z = (k : Int) - 1 ∧ k ≤ n + 1 ∧ iv = .int .i64 z ∧ DvRel x y n k R qs ∧ NatAt wr rv R (2 * L + 1) ∧ Off v1.heap.size rv ∧ NatAt wr dv (y * 2 ^ k / 2) (2 * L + 1) ∧ Off v1.heap.size dv ∧
          wr.ownsRow v1.heap.size 59 1 (.slice (some ⟨v1.heap.size, 0, none⟩) (j + 1) (j + 1)) (j + 1) (qs.map (Value.int .u64)) ∧ Ext w wr) (fun _ _ iv _ => (intOf iv + 1).toNat)
      case atStart => exact ⟨n + 1, n, x, _, by omega, Nat.le_refl _, rfl, HS.out, HR4.out, HO1.out, HD4.out, HO4.out, HA4.out, x14⟩
      case round =>
        clear HS HR4 HD4 HO1 HO4 HA4 x14 x4 x3 lt3
        obtain ⟨k, z, R, qs, hz, hk, rfl, hD, hR, oR, hd, od, hown, hext⟩ := hrel
        have HR := Lib.hid hR
        have HOR := Lib.hid oR
        have HDv := Lib.hid hd
        have HOD := Lib.hid od
        have HO := Lib.hid hown
        have HRel := Lib.hid hD
        clear hR oR hd od hown hD
        rcases k with _ | i
        · obtain rfl : z = -1 := by omega
          clear hz
          have HR' := Lib.hid (Row.of_owns HO.out)
          go_wp2_with fail
          refine (trim_new HR'.out.1).mono ?_
          rintro e w' ⟨v6, n6, hcut, rfl, hrow6, rfl, hob⟩
          have x1s := x1.size
          have HN : Hid (New w v6) := Lib.hid (fun b hb => by rw [hob] at hb; simp [Value.ownBlock] at hb; omega)
          have hq := NatAt.of_cut hrow6 hcut HRel.out.digs (Nat.le_of_eq HR'.out.2)
          have hf := HRel.out.fin hy0
          have hxl := HXL.out
          have hp := Int.mul_ediv_add_emod x y
          have d0 := Int.ediv_nonneg x0 (Int.le_of_lt hy0)
          have d1 := Int.ediv_le_self y x0
          have m1' := Int.emod_le_of_nonneg' x0 hy0
          have H1 : Hid (NatAt wr v6 (x / y) L) := Lib.hid (by rw [hf.1] at d1 ⊢; exact hq.small (by omega))
          have H2 : Hid (NatAt wr _ (x % y) L) := Lib.hid (by have h := HR.out; rw [← hf.2] at h; exact h.small (by omega))
          clear hcut hrow6 hq hf hxl hp d0 d1 m1' hob x1s
          go_wp2
          go_ret2
          exact ⟨_, _, rfl, hext, H1.out, H2.out, HN.out⟩
        · obtain rfl : z = (i : Int) := by omega
          clear hz
          have ltg := (HO.out.lt _ rfl).2
          rcases Int.lt_or_le R (y * 2 ^ i) with hr | hr
          · have e : cmpI R (y * 2 ^ (i + 1) / 2) = -1 := by rw [half_pow]; exact cmpI_lt hr
            have nc := NCmp_any HR.out HDv.out (by omega)
            rw [e] at nc
            have NC := Lib.hid nc
            have HN := Lib.hid (HRel.out.no hr)
            clear e nc hr
            go_wp2_with fail
            refine NC.out.mono ?_
            rintro e v5 ⟨rfl, x5⟩
            have lt5 := Nat.lt_of_lt_of_le ltg x5.size
            go_wp2_with fail
            refine (Down2_new (q := 0) (s := 1) (HDv.out.ext x5) (by omega) (by omega) (by omega)).mono ?_
            rintro e v6 ⟨d6, rfl, x6, h6, n6⟩
            rw [half_again] at h6
            have H6 := Lib.hid h6
            have O6 := Lib.hid (n6.off lt5)
            clear h6 n6
            go_wp2_with fail
            exact ⟨⟨i, _, _, _, by omega, by omega, rfl, HN.out, HR.out.ext (x5.tr x6), HOR.out, H6.out, O6.out, (x5.tr x6).owns HO.out, (hext.tr x5).tr x6⟩, by simp [intOf]⟩
          · have e : 0 ≤ cmpI R (y * 2 ^ (i + 1) / 2) := by
              rw [half_pow]
              rcases Int.lt_or_eq_of_le hr with h | h
              · rw [cmpI_gt h]; omega
              · rw [h, cmpI_eq]; omega
            generalize hc : cmpI R (y * 2 ^ (i + 1) / 2) = c at e
            have nc := NCmp_any HR.out HDv.out (by omega)
            rw [hc] at nc
            have NC := Lib.hid nc
            have hn := HRel.out.yes (by omega) hr
            have dg := HRel.out.digit (by omega)
            rw [← dg.2.2.1] at hn
            have hle : y * 2 ^ (i + 1) / 2 ≤ R := by rw [half_pow]; exact hr
            have HLe := Lib.hid hle
            have sub : R - y * 2 ^ (i + 1) / 2 = R - y * 2 ^ i := by rw [half_pow]
            have HSub := Lib.hid sub
            have hlen := HRel.out.len
            have hrow2 := (Row.of_owns HO.out).2
            have hji : i / 64 < j + 1 := by
              have := Nat.div_le_div_right (c := 64) (show i ≤ n by omega)
              omega
            have nqi : (i : Int).tdiv 64 = ((i / 64 : Nat) : Int) := by rw [Int.tdiv_eq_ediv_of_nonneg (by omega)]; omega
            have nsi : (i : Int).tmod 64 = ((i % 64 : Nat) : Int) := by rw [Int.tmod_eq_emod_of_nonneg (by omega)]; omega
            have hsi : i % 64 < 64 := by omega
            generalize i / 64 = ji at *
            generalize i % 64 = si at *
            have hw : IntKind.u64.wrap (2 ^ si) = 2 ^ si := by
              rw [IntKind.wrap_u64]
              have p := pow_pos' si
              have d0 := dg.1
              have d1 := dg.2.1
              omega
            have hji2 : (ji : Int) < (j : Int) + 1 := by omega
            have HN := Lib.hid hn
            clear hc nc hr hle hn dg sub hlen hrow2
            go_wp2_with fail
            refine NC.out.mono ?_
            rintro e v5 ⟨rfl, x5⟩
            have lt5 := Nat.lt_of_lt_of_le ltg x5.size
            go_wp2_with fail
            refine (NLess_new (HR.out.ext x5) (HDv.out.ext x5) HLe.out (by omega)).mono ?_
            rintro e v6 ⟨r6, rfl, x6, h6, n6⟩
            rw [HSub.out] at h6
            have o6 := (x5.tr x6).owns HO.out
            have cz := owns_at o6 ji hji
            have fz := o6.frozenAt ji
            have lt6 := Nat.lt_of_lt_of_le lt5 x6.size
            have H6 := Lib.hid (h6.off (o := ji) (u := .int .u64 (bits .or .u64 (qs.getD ji 0) (2 ^ si))) (n6.off lt5))
            have O6 := Lib.hid (n6.off lt5)
            have HD6 := Lib.hid ((HDv.out.ext (x5.tr x6)).off (o := ji) (u := .int .u64 (bits .or .u64 (qs.getD ji 0) (2 ^ si))) HOD.out)
            have W6 := Lib.hid (own_set o6 ji (bits .or .u64 (qs.getD ji 0) (2 ^ si)))
            have lb1 : w.heap.size ≤ v1.heap.size := x1.size
            have X6 : Ext w (v6.setCell ⟨v1.heap.size, ji, none⟩ (.int .u64 (bits .or .u64 (qs.getD ji 0) (2 ^ si)))) := ((hext.tr x5).tr x6).setCell lb1 _
            clear h6 n6 o6
            generalize qs.getD ji 0 = D at *
            go_wp2_with fail
            refine (Down2_new (q := 0) (s := 1) HD6.out (by omega) (by omega) (by omega)).mono ?_
            rintro e v7 ⟨d7, rfl, x7, h7, n7⟩
            rw [half_again] at h7
            have H7 := Lib.hid h7
            have O7 := Lib.hid (n7.off (by simp; omega))
            clear h7 n7
            go_wp2_with fail
            exact ⟨⟨i, _, _, _, by omega, by omega, rfl, HN.out, H6.out.ext x7, O6.out, H7.out, O7.out, x7.owns W6.out, X6.tr x7⟩, by simp [intOf]⟩
theorem NDivide_any {m1 m2 : Value} {x y : Int} {L : Nat} {w : World} (hX : NatAt w m1 x L) (hY : NatAt w m2 y L) (hy0 : 0 < y) (hL : L ≤ 100000) :
    Calls Tryz.prog 221 #[m1, m2] w fun e w' => ∃ q r, e = .returned (.tuple #[q, r]) ∧ Ext w w' ∧ NatAt w' q (x / y) L ∧ NatAt w' r (x % y) L :=
  (NDivide_new hX hY hy0 hL).mono (by rintro e w' ⟨q, r, h1, h2, h3, h4, -⟩; exact ⟨q, r, h1, h2, h3, h4⟩)
end Go.Proofs.YtkegefnpmijfiaaGreat
namespace Go.Proofs.YtkegefnpmijfiaaGreat
open Go.RowKit
theorem NatAt.form {w : World} {v : Value} {x : Int} {L : Nat} (h : NatAt w v x L) : ∃ a n cap, v = .slice a n cap ∧ n ≤ L ∧ (n = 0 → x = 0) ∧ (0 < n → 0 < x) := by
  obtain ⟨ds, ⟨a, cap, rfl, h1, h2, h3⟩, hd, hn, rfl, hl⟩ := h.is
  refine ⟨a, _, cap, rfl, hl, fun h => ?_, fun h => ?_⟩
  · rw [List.eq_nil_of_length_eq_zero h]; rfl
  · have h6 := val_top (by decide) hd hn (List.length_pos_iff.1 h)
    have h7 : (0 : Int) < B64 ^ (ds.length - 1) := Int.pow_pos (by decide)
    omega
theorem gcd_step {X Y : Int} (hx : 0 ≤ X) (hy : 0 ≤ Y) : Int.gcd (X % Y) Y = Int.gcd X Y := by
  obtain ⟨a, rfl⟩ := Int.eq_ofNat_of_zero_le hx
  obtain ⟨b, rfl⟩ := Int.eq_ofNat_of_zero_le hy
  have e : ((a : Int) % (b : Int)) = ((a % b : Nat) : Int) := by omega
  rw [e]
  simp only [Int.gcd, Int.natAbs_natCast]
  rw [← Nat.gcd_rec, Nat.gcd_comm]
set_option maxHeartbeats 1000000 in
theorem NGcd_any {m1 m2 : Value} {x y : Int} {L : Nat} {w : World} (hX : NatAt w m1 x L) (hY : NatAt w m2 y L) (hL : L ≤ 100000) :
    Calls Tryz.prog 220 #[m1, m2] w fun e w' => ∃ v, e = .returned v ∧ Ext w w' ∧ NatAt w' v (Int.gcd x y) L := by
  go_enter Tryz.func220, Tryz.ntmps220
  go_wp2_with fail
  go_loopg [0, 1] y.toNat (fun g av bv wr => ∃ X Y : Int, g = Y.toNat ∧ NatAt wr av X L ∧ NatAt wr bv Y L ∧ Int.gcd X Y = Int.gcd x y ∧ Ext w wr)
  case atStart => exact ⟨x, y, rfl, hX, hY, rfl, Ext.refl _⟩
  case round =>
    obtain ⟨X, Y, hg, hA, hB, hgcd, hext⟩ := hrel
    have HA := Lib.hid hA
    have HB := Lib.hid hB
    have HG := Lib.hid hgcd
    have HM := Lib.hid hg
    obtain ⟨a, n, cap, rfl, hn, z1, z2⟩ := hB.form
    have x0 := hA.nn
    clear hA hB hgcd hg hX hY
    rcases Nat.eq_zero_or_pos n with h | h
    · have hy := z1 h
      subst h
      have H : Hid (NatAt wr _ (Int.gcd x y) L) := Lib.hid (by rw [← HG.out, hy, Int.gcd_zero_right, Int.natAbs_of_nonneg x0]; exact HA.out)
      clear hy z1 z2
      go_wp2
      go_ret
      exact ⟨_, rfl, hext, H.out⟩
    · have hy := z2 h
      have hn0 : (0 : Int) < (n : Int) := by omega
      clear z1 z2
      go_wp2_with fail
      refine (NDivide_any HA.out HB.out hy hL).mono ?_
      rintro e v1 ⟨q, r, rfl, x1, hq, hr⟩
      have HR := Lib.hid hr
      have m0 := Int.emod_nonneg X (show Y ≠ 0 by omega)
      have m1' := Int.emod_lt_of_pos X hy
      clear hq hr
      go_wp2_with fail
      go_roundg (X % Y).toNat
      case rel => exact ⟨Y, X % Y, rfl, HB.out.ext x1, HR.out, by rw [← HG.out, Int.gcd_comm Y]; exact gcd_step x0 (Int.le_of_lt hy), hext.tr x1⟩
      case measure => rw [HM.out]; omega
end Go.Proofs.YtkegefnpmijfiaaGreat
namespace Go.Proofs.YtkegefnpmijfiaaGreat
open Go.RowKit
/-- A whole number of the reference, as a world holds it. -/
structure IntAt (w : World) (v : Value) (x : Int) (L : Nat) : Prop where
  is : ∃ m, v = .agg #[.bool (decide (x < 0)), m] ∧ NatAt w m (mag x) L
theorem IntAt.ext {w w' : World} {v : Value} {x : Int} {L : Nat} (h : IntAt w v x L) (e : Ext w w') : IntAt w' v x L := by
  obtain ⟨m, h1, h2⟩ := h.is; exact ⟨⟨m, h1, h2.ext e⟩⟩
theorem IntAt.mono {w : World} {v : Value} {x : Int} {L L' : Nat} (h : IntAt w v x L) (hl : L ≤ L') : IntAt w v x L' := by
  obtain ⟨m, h1, h2⟩ := h.is; exact ⟨⟨m, h1, h2.mono hl⟩⟩
theorem sg_neg {neg : Bool} {n : Int} (h : 0 ≤ n) : decide (sg neg n < 0) = (neg && decide (0 < n)) := by
  cases neg <;> simp [sg] <;> omega
theorem mag_sg {neg : Bool} {n : Int} (h : 0 ≤ n) : mag (sg neg n) = n := by
  unfold mag sg; cases neg <;> simp <;> omega
theorem sg_mag (x : Int) : sg (decide (x < 0)) (mag x) = x := by
  unfold mag sg; by_cases h : x < 0 <;> simp [h]
theorem mag_nn (x : Int) : 0 ≤ mag x := by unfold mag; split <;> omega
theorem Made_raw (neg : Bool) {m : Value} {n : Int} {L : Nat} {w : World} (h : NatAt w m n L) (u : World) :
    Calls Tryz.prog 147 #[.bool neg, m] u fun e w' => e = .returned (.agg #[.bool (neg && decide (0 < n)), m]) ∧ Ext u w' := by
  obtain ⟨a, k, cap, rfl, hk, z1, z2⟩ := h.form
  clear h
  rcases Nat.eq_zero_or_pos k with hk0 | hk0
  · obtain rfl := z1 hk0
    subst hk0
    clear z1 z2
    cases neg
    all_goals
      go_enter Tryz.func147, Tryz.ntmps147
      go_wp2
      simp [bodyPost, results, Tryz.results147, go_sem]
      exact Ext.q
  · have hn : decide (0 < n) = true := by simp [z2 hk0]
    have kk : (0 : Int) < (k : Int) := by omega
    rw [hn]
    clear z1 z2 hn
    cases neg
    all_goals
      go_enter Tryz.func147, Tryz.ntmps147
      go_wp2
      simp [bodyPost, results, Tryz.results147, go_sem]
      exact Ext.q
theorem Neg_ref {v : Value} {x : Int} {L : Nat} {w : World} (h : IntAt w v x L) :
    Calls Tryz.prog 113 #[v] w fun e w' => ∃ v', e = .returned v' ∧ Ext w w' ∧ IntAt w' v' (-x) L := by
  obtain ⟨m, rfl, hm⟩ := h.is
  obtain ⟨a, k, cap, rfl, -⟩ := hm.form
  have R := Lib.hid (fun u => Made_raw (!decide (x < 0)) hm u)
  have e1 : (!decide (x < 0) && decide (0 < mag x)) = decide (-x < 0) := by unfold mag; by_cases h : x < 0 <;> simp [h] <;> omega
  have e2 : mag (-x) = mag x := by unfold mag; split <;> split <;> omega
  have E1 := Lib.hid e1
  have E2 := Lib.hid e2
  have HM := Lib.hid hm
  clear h hm e1 e2
  go_enter Tryz.func113, Tryz.ntmps113
  go_wp2_with fail; refine (R.out _).mono ?_; rintro e v1 ⟨rfl, x1⟩; obtain ⟨c1, f1⟩ := x1.rules; have z1 := x1.size; have lq := fun o => c1 (w.heap.size) o (by first | (simp; done) | (simp; omega) | omega); have mq := fun o => f1 (w.heap.size) o (by first | (simp; done) | (simp; omega) | omega); have k1_0_0 := lq 0; have q1_0_0 := mq 0; have k1_0_1 := lq 1; have q1_0_1 := mq 1; clear lq mq; have lq := fun o => c1 (w.heap.size + 1) o (by first | (simp; done) | (simp; omega) | omega); have mq := fun o => f1 (w.heap.size + 1) o (by first | (simp; done) | (simp; omega) | omega); have k1_1_0 := lq 0; have q1_1_0 := mq 0; have k1_1_1 := lq 1; have q1_1_1 := mq 1; clear lq mq; have z1_0 : w.heap.size < v1.heap.size := (by (try simp at z1); omega); have z1_1 : w.heap.size + 1 < v1.heap.size := (by (try simp at z1); omega); (try simp at z1); clear c1 f1; simp [go_sem, *] at k1_0_0 q1_0_0 k1_0_1 q1_0_1 k1_1_0 q1_1_0 k1_1_1 q1_1_1
  go_wp2
  simp [bodyPost, results, Tryz.results113, go_sem, *]
  refine ⟨Ext.q, ⟨⟨_, by rw [← E1.out], by rw [E2.out]; exact HM.out.ext Ext.q⟩⟩⟩
theorem mag_I64 {x : Int} (h1 : -9223372036854775808 ≤ x) (h2 : x ≤ 9223372036854775807) : 0 ≤ mag x ∧ mag x < 18446744073709551616 := by
  unfold mag; split <;> omega
theorem Size_any (x : Int) (w : World) (h1 : -9223372036854775808 ≤ x) (h2 : x ≤ 9223372036854775807) :
    Calls Tryz.prog 149 #[.int .i64 x] w fun e w' => e = .returned (.int .u64 (mag x)) ∧ w = w' := by
  by_cases h : x < 0
  · have g : mag x = -x := by simp [mag, h]
    rw [g]
    clear g
    go_enter Tryz.func149, Tryz.ntmps149
    go_wp2
    go_ret
    simp [IntKind.wrap_u64]
    omega
  · have g : mag x = x := by simp [mag, h]
    rw [g]
    have h0 : 0 ≤ x := by omega
    clear g
    go_enter Tryz.func149, Tryz.ntmps149
    go_wp2
    go_ret
    simp
/-- A number whose row is none of w's. -/
def NewInt (w : World) (v : Value) : Prop := ∀ s m, v = .agg #[s, m] → New w m
theorem From_new (x : Int) (w : World) (h1 : -9223372036854775808 ≤ x) (h2 : x ≤ 9223372036854775807) :
    Calls Tryz.prog 67 #[.int .i64 x] w fun e w' => ∃ v, e = .returned v ∧ Ext w w' ∧ IntAt w' v x 1 ∧ NewInt w v := by
  obtain ⟨m0, m1⟩ := mag_I64 h1 h2
  have S := Lib.hid (fun u => Size_any x u h1 h2)
  have N := Lib.hid (fun u => NOf_new (mag x) u m0 m1)
  clear m0 m1
  go_enter Tryz.func67, Tryz.ntmps67
  go_wp2_with fail; refine (S.out _).mono ?_; rintro e w' ⟨rfl, rfl⟩
  go_wp2_with fail; refine (N.out _).mono ?_; rintro e v1 ⟨q1, rfl, x1, h1⟩; obtain ⟨c1, f1⟩ := x1.rules; have z1 := x1.size; have lq := fun o => c1 (w.heap.size) o (by first | (simp; done) | (simp; omega) | omega); have mq := fun o => f1 (w.heap.size) o (by first | (simp; done) | (simp; omega) | omega); have k1_0_0 := lq 0; have q1_0_0 := mq 0; have k1_0_1 := lq 1; have q1_0_1 := mq 1; clear lq mq; have z1_0 : w.heap.size < v1.heap.size := (by (try simp at z1); omega); (try simp at z1); clear c1 f1; simp [go_sem, *] at k1_0_0 q1_0_0 k1_0_1 q1_0_1
  obtain ⟨h1, n1⟩ := h1
  have H1 := Lib.hid h1
  have O1 := Lib.hid (n1.off (g := w.heap.size) (by simp))
  have e1 : (decide (x < 0) && decide (0 < mag x)) = decide (x < 0) := by unfold mag; by_cases h : x < 0 <;> simp [h]
  have E1 := Lib.hid e1
  have N1 := Lib.hid n1
  clear n1 e1
  obtain ⟨a, k, cap, rfl, -⟩ := h1.form
  have R := Lib.hid (fun u => Made_raw (decide (x < 0)) H1.out u)
  clear h1
  go_wp2_with fail; refine (R.out _).mono ?_; rintro e v2 ⟨rfl, x2⟩; obtain ⟨c2, f2⟩ := x2.rules; have z2 := x2.size; have lq := fun o => c2 (w.heap.size) o (by first | (simp; done) | (simp; omega) | omega); have mq := fun o => f2 (w.heap.size) o (by first | (simp; done) | (simp; omega) | omega); have k2_0_0 := lq 0; have q2_0_0 := mq 0; have k2_0_1 := lq 1; have q2_0_1 := mq 1; clear lq mq; have z2_0 : w.heap.size < v2.heap.size := (by (try simp at z2); omega); (try simp at z2); clear c2 f2; simp [go_sem, *] at k2_0_0 q2_0_0 k2_0_1 q2_0_1; (try clear k1_0_0); (try clear q1_0_0); (try clear k1_0_1); (try clear q1_0_1)
  go_wp2
  simp [bodyPost, results, Tryz.results67, go_sem, *]
  have W1 : New w (.slice a k cap) := fun b hb => by have := N1.out b hb; simp at this; omega
  refine ⟨Ext.q, ⟨⟨_, by rw [E1.out], ((H1.out.ext Ext.q).off O1.out).off O1.out⟩⟩, fun s m e => ?_⟩
  simp at e
  rw [← e.2]; exact W1
theorem From_ref (x : Int) (w : World) (h1 : -9223372036854775808 ≤ x) (h2 : x ≤ 9223372036854775807) :
    Calls Tryz.prog 67 #[.int .i64 x] w fun e w' => ∃ v, e = .returned v ∧ Ext w w' ∧ IntAt w' v x 1 :=
  (From_new x w h1 h2).mono (by rintro e w' ⟨v, a, b, c, -⟩; exact ⟨v, a, b, c⟩)
def sgn (x : Int) : Int := if x < 0 then -1 else if 0 < x then 1 else 0
theorem Sign_ref {v : Value} {x : Int} {L : Nat} {w : World} (h : IntAt w v x L) :
    Calls Tryz.prog 70 #[v] w fun e w' => e = .returned (.int .i64 (sgn x)) ∧ Ext w w' := by
  obtain ⟨m, rfl, hm⟩ := h.is
  obtain ⟨a, k, cap, rfl, -, z1, z2⟩ := hm.form
  clear h hm
  rcases Int.lt_trichotomy x 0 with hx | hx | hx
  · have e : decide (x < 0) = true := by simp [hx]
    have s : sgn x = -1 := by simp [sgn, hx]
    rw [e, s]
    clear e s z1 z2 hx
    go_enter Tryz.func70, Tryz.ntmps70
    go_wp2
    go_ret
    exact ⟨rfl, Ext.q⟩
  · have hk : k = 0 := by
      rcases Nat.eq_zero_or_pos k with h | h
      · exact h
      · have := z2 h; subst hx; simp [mag] at this
    subst hx hk
    clear z1 z2
    go_enter Tryz.func70, Tryz.ntmps70
    go_wp2
    go_ret
    exact ⟨rfl, Ext.q⟩
  · have hk : (0 : Int) < (k : Int) := by
      rcases Nat.eq_zero_or_pos k with h | h
      · have := z1 h; unfold mag at this; split at this <;> omega
      · omega
    have e : decide (x < 0) = false := by simp; omega
    have s : sgn x = 1 := by unfold sgn; rw [if_neg (by omega), if_pos hx]
    rw [e, s]
    clear e s z1 z2 hx
    go_enter Tryz.func70, Tryz.ntmps70
    go_wp2
    go_ret
    exact ⟨rfl, Ext.q⟩
end Go.Proofs.YtkegefnpmijfiaaGreat
namespace Go.Proofs.YtkegefnpmijfiaaGreat
open Go.RowKit
theorem sg_mul (x y : Int) : sg (decide (x < 0) != decide (y < 0)) (mag x * mag y) = x * y := by
  unfold mag sg
  by_cases h : x < 0 <;> by_cases k : y < 0 <;> simp [h, k, Int.neg_mul, Int.mul_neg]
theorem mag_mul' (a k : Int) (hk : 0 < k) : mag (a * k) = mag a * k ∧ decide (a * k < 0) = decide (a < 0) := by
  unfold mag
  rcases Int.lt_or_le a 0 with h | h
  · have := Int.mul_neg_of_neg_of_pos h hk
    rw [if_pos h, if_pos this, Int.neg_mul]
    simp [h, this]
  · have := Int.mul_nonneg h (Int.le_of_lt hk)
    rw [if_neg (by omega), if_neg (by omega)]
    exact ⟨rfl, by simp; omega⟩
set_option maxHeartbeats 1000000 in
theorem Times_ref {u v : Value} {x y : Int} {L : Nat} {w : World} (hu : IntAt w u x L) (hv : IntAt w v y L) (hL : L ≤ 400000) :
    Calls Tryz.prog 69 #[u, v] w fun e w' => ∃ q, e = .returned q ∧ Ext w w' ∧ IntAt w' q (x * y) (2 * L) ∧ NewInt w q := by
  obtain ⟨m1, rfl, hm1⟩ := hu.is
  obtain ⟨m2, rfl, hm2⟩ := hv.is
  obtain ⟨a1, k1, c1, rfl, -⟩ := hm1.form
  obtain ⟨a2, k2, c2, rfl, -⟩ := hm2.form
  have H1 := Lib.hid hm1
  have H2 := Lib.hid hm2
  have e1 : ((decide (x < 0) != decide (y < 0)) && decide (0 < mag x * mag y)) = decide (x * y < 0) := by rw [← sg_neg (Int.mul_nonneg (mag_nn x) (mag_nn y)), sg_mul]
  have e2 : mag (x * y) = mag x * mag y := by rw [← sg_mul, mag_sg (Int.mul_nonneg (mag_nn x) (mag_nn y))]
  have E1 := Lib.hid e1
  have E2 := Lib.hid e2
  clear hu hv hm1 hm2 e1 e2
  go_enter Tryz.func69, Tryz.ntmps69
  go_wp2_with fail
  go_region_held3 (fun w' => w'.cell? ⟨w.heap.size, 0, none⟩ = some (.bool (decide (x < 0))) ∧ w'.cell? ⟨w.heap.size, 1, none⟩ = some (.slice a1 k1 c1) ∧ w'.cell? ⟨w.heap.size + 1, 0, none⟩ = some (.bool (decide (y < 0))) ∧ w'.cell? ⟨w.heap.size + 1, 1, none⟩ = some (.slice a2 k2 c2) ∧ w.heap.size + 2 < w'.heap.size ∧ Ext w w')
    (refine ⟨?_, ?_, ?_, ?_, ?_, ?_⟩ <;> first | (simp [go_sem, *]; done) | omega | (simp at z1; omega) | (simp at z2; omega) | (simp at z3; omega) | (simp at z4; omega) | exact Ext.q)
    (first
      | ((go_at_call 153; refine (NTimes_new (H1.out.ext Ext.q) (H2.out.ext Ext.q) hL).mono ?_; rintro e v1 ⟨q1, rfl, x1, h1⟩; obtain ⟨c1, f1⟩ := x1.rules; have z1 := x1.size; have lq := fun o => c1 (w.heap.size) o (by first | (simp; done) | (simp; omega) | omega); have mq := fun o => f1 (w.heap.size) o (by first | (simp; done) | (simp; omega) | omega); have k1_0_0 := lq 0; have q1_0_0 := mq 0; have k1_0_1 := lq 1; have q1_0_1 := mq 1; clear lq mq; have lq := fun o => c1 (w.heap.size + 1) o (by first | (simp; done) | (simp; omega) | omega); have mq := fun o => f1 (w.heap.size + 1) o (by first | (simp; done) | (simp; omega) | omega); have k1_1_0 := lq 0; have q1_1_0 := mq 0; have k1_1_1 := lq 1; have q1_1_1 := mq 1; clear lq mq; have lq := fun o => c1 (w.heap.size + 2) o (by first | (simp; done) | (simp; omega) | omega); have mq := fun o => f1 (w.heap.size + 2) o (by first | (simp; done) | (simp; omega) | omega); have k1_2_0 := lq 0; have q1_2_0 := mq 0; have k1_2_1 := lq 1; have q1_2_1 := mq 1; clear lq mq; have z1_0 : w.heap.size < v1.heap.size := (by (try simp at z1); omega); have z1_1 : w.heap.size + 1 < v1.heap.size := (by (try simp at z1); omega); have z1_2 : w.heap.size + 2 < v1.heap.size := (by (try simp at z1); omega); (try simp at z1); clear c1 f1; simp [go_sem, *] at k1_0_0 q1_0_0 k1_0_1 q1_0_1 k1_1_0 q1_1_0 k1_1_1 q1_1_1 k1_2_0 q1_2_0 k1_2_1 q1_2_1); obtain ⟨h1, n1⟩ := h1; have HH := Lib.hid h1; obtain ⟨a, k, cap, rfl, -⟩ := h1.form; have HN := Lib.hid n1; clear n1 h1)
      | (go_at_call 147; refine (Made_raw _ HH.out _).mono ?_; rintro e v2 ⟨rfl, x2⟩; obtain ⟨c2, f2⟩ := x2.rules; have z2 := x2.size; have lq := fun o => c2 (w.heap.size) o (by first | (simp; done) | (simp; omega) | omega); have mq := fun o => f2 (w.heap.size) o (by first | (simp; done) | (simp; omega) | omega); have k2_0_0 := lq 0; have q2_0_0 := mq 0; have k2_0_1 := lq 1; have q2_0_1 := mq 1; clear lq mq; have lq := fun o => c2 (w.heap.size + 1) o (by first | (simp; done) | (simp; omega) | omega); have mq := fun o => f2 (w.heap.size + 1) o (by first | (simp; done) | (simp; omega) | omega); have k2_1_0 := lq 0; have q2_1_0 := mq 0; have k2_1_1 := lq 1; have q2_1_1 := mq 1; clear lq mq; have lq := fun o => c2 (w.heap.size + 2) o (by first | (simp; done) | (simp; omega) | omega); have mq := fun o => f2 (w.heap.size + 2) o (by first | (simp; done) | (simp; omega) | omega); have k2_2_0 := lq 0; have q2_2_0 := mq 0; have k2_2_1 := lq 1; have q2_2_1 := mq 1; clear lq mq; have z2_0 : w.heap.size < v2.heap.size := (by (try simp at z2); omega); have z2_1 : w.heap.size + 1 < v2.heap.size := (by (try simp at z2); omega); have z2_2 : w.heap.size + 2 < v2.heap.size := (by (try simp at z2); omega); (try simp at z2); clear c2 f2; simp [go_sem, *] at k2_0_0 q2_0_0 k2_0_1 q2_0_1 k2_1_0 q2_1_0 k2_1_1 q2_1_1 k2_2_0 q2_2_0 k2_2_1 q2_2_1))
  all_goals
    have O1 : Hid (Off (w.heap.size + 1 + 1) (.slice a k cap)) := Lib.hid (HN.out.off (by simp))
    have NW : Hid (New w (.slice a k cap)) := Lib.hid (fun b hb => by have := HN.out b hb; simp at this; omega)
    go_wp2
    simp [bodyPost, results, Tryz.results69, go_sem, *]
    refine ⟨⟨⟨_, by rw [← E1.out]; rfl, by rw [E2.out]; exact ((HH.out.ext Ext.q).off O1.out).off O1.out⟩⟩, fun s m e => ?_⟩
    simp at e
    rw [← e.2]; exact NW.out
set_option maxHeartbeats 1000000 in
theorem Left_ref {u : Value} {x n : Int} {L q s : Nat} {w : World} (hu : IntAt w u x L) (hL : L ≤ 400000) (hq : q ≤ 400000) (hs : s < 64) (hn : n = 64 * q + s) :
    Calls Tryz.prog 74 #[u, .int .i64 n] w fun e w' => ∃ v, e = .returned v ∧ Ext w w' ∧ IntAt w' v (x * 2 ^ (64 * q + s)) (L + q + 1) ∧ NewInt w v := by
  obtain ⟨m1, rfl, hm1⟩ := hu.is
  obtain ⟨a1, k1, c1, rfl, -⟩ := hm1.form
  have H1 := Lib.hid hm1
  have p := pow_pos' (64 * q + s)
  have e2 := (mag_mul' x _ p).1
  have e3 := (mag_mul' x _ p).2
  have e1 : (decide (x < 0) && decide (0 < mag x * 2 ^ (64 * q + s))) = decide (x * 2 ^ (64 * q + s) < 0) := by
    rw [← sg_neg (Int.mul_nonneg (mag_nn x) (Int.le_of_lt p)), ← e2, ← e3, sg_mag]
  have E1 := Lib.hid e1
  have E2 := Lib.hid e2
  have HN' := Lib.hid hn
  clear hu hm1 e1 e2 e3 p hn
  go_enter Tryz.func74, Tryz.ntmps74
  go_wp2_with fail
  go_region_held3 (fun w' => w'.cell? ⟨w.heap.size, 0, none⟩ = some (.bool (decide (x < 0))) ∧ w'.cell? ⟨w.heap.size, 1, none⟩ = some (.slice a1 k1 c1) ∧ w.heap.size + 1 < w'.heap.size ∧ Ext w w')
    (refine ⟨?_, ?_, ?_, ?_⟩ <;> first | (simp [go_sem, *]; done) | omega | (simp at z1; omega) | (simp at z2; omega) | (simp at z3; omega) | (simp at z4; omega) | exact Ext.q)
    (first
      | ((go_at_call 154; refine (Up2_new (H1.out.ext Ext.q) (by omega) (by omega) hs HN'.out).mono ?_; rintro e v1 ⟨q1, rfl, x1, h1⟩; obtain ⟨c1, f1⟩ := x1.rules; have z1 := x1.size; have lq := fun o => c1 (w.heap.size) o (by first | (simp; done) | (simp; omega) | omega); have mq := fun o => f1 (w.heap.size) o (by first | (simp; done) | (simp; omega) | omega); have k1_0_0 := lq 0; have q1_0_0 := mq 0; have k1_0_1 := lq 1; have q1_0_1 := mq 1; clear lq mq; have lq := fun o => c1 (w.heap.size + 1) o (by first | (simp; done) | (simp; omega) | omega); have mq := fun o => f1 (w.heap.size + 1) o (by first | (simp; done) | (simp; omega) | omega); have k1_1_0 := lq 0; have q1_1_0 := mq 0; have k1_1_1 := lq 1; have q1_1_1 := mq 1; clear lq mq; have z1_0 : w.heap.size < v1.heap.size := (by (try simp at z1); omega); have z1_1 : w.heap.size + 1 < v1.heap.size := (by (try simp at z1); omega); (try simp at z1); clear c1 f1; simp [go_sem, *] at k1_0_0 q1_0_0 k1_0_1 q1_0_1 k1_1_0 q1_1_0 k1_1_1 q1_1_1); obtain ⟨h1, n1⟩ := h1; have HH := Lib.hid h1; obtain ⟨a, k, cap, rfl, -⟩ := h1.form; have HN := Lib.hid n1; clear n1 h1)
      | (go_at_call 147; refine (Made_raw _ HH.out _).mono ?_; rintro e v2 ⟨rfl, x2⟩; obtain ⟨c2, f2⟩ := x2.rules; have z2 := x2.size; have lq := fun o => c2 (w.heap.size) o (by first | (simp; done) | (simp; omega) | omega); have mq := fun o => f2 (w.heap.size) o (by first | (simp; done) | (simp; omega) | omega); have k2_0_0 := lq 0; have q2_0_0 := mq 0; have k2_0_1 := lq 1; have q2_0_1 := mq 1; clear lq mq; have lq := fun o => c2 (w.heap.size + 1) o (by first | (simp; done) | (simp; omega) | omega); have mq := fun o => f2 (w.heap.size + 1) o (by first | (simp; done) | (simp; omega) | omega); have k2_1_0 := lq 0; have q2_1_0 := mq 0; have k2_1_1 := lq 1; have q2_1_1 := mq 1; clear lq mq; have z2_0 : w.heap.size < v2.heap.size := (by (try simp at z2); omega); have z2_1 : w.heap.size + 1 < v2.heap.size := (by (try simp at z2); omega); (try simp at z2); clear c2 f2; simp [go_sem, *] at k2_0_0 q2_0_0 k2_0_1 q2_0_1 k2_1_0 q2_1_0 k2_1_1 q2_1_1))
  all_goals
    have O1 : Hid (Off (w.heap.size + 1) (.slice a k cap)) := Lib.hid (HN.out.off (by simp))
    have NW : Hid (New w (.slice a k cap)) := Lib.hid (fun b hb => by have := HN.out b hb; simp at this; omega)
    go_wp2
    simp [bodyPost, results, Tryz.results74, go_sem, *]
    refine ⟨⟨⟨_, by rw [← E1.out], by rw [E2.out]; exact ((HH.out.ext Ext.q).off O1.out).off O1.out⟩⟩, fun s m e => ?_⟩
    simp at e
    rw [← e.2]; exact NW.out
end Go.Proofs.YtkegefnpmijfiaaGreat
namespace Go.Proofs.YtkegefnpmijfiaaGreat
open Go.RowKit
theorem NewInt.mk {w : World} {s m : Value} (h : New w m) : NewInt w (.agg #[s, m]) := fun s' m' e => by
  simp at e; rw [← e.2]; exact h
set_option maxHeartbeats 2000000 in
theorem Plus_ref {u v : Value} {x y : Int} {L : Nat} {w : World} (hu : IntAt w u x L) (hv : IntAt w v y L) (hL : L ≤ 400000) :
    Calls Tryz.prog 68 #[u, v] w fun e w' => ∃ q, e = .returned q ∧ Ext w w' ∧ IntAt w' q (x + y) (L + 1) ∧ NewInt w q := by
  obtain ⟨m1, rfl, hm1⟩ := hu.is
  obtain ⟨m2, rfl, hm2⟩ := hv.is
  obtain ⟨a1, k1, c1, rfl, -⟩ := hm1.form
  obtain ⟨a2, k2, c2, rfl, -⟩ := hm2.form
  have H1 := Lib.hid hm1
  have H2 := Lib.hid hm2
  clear hu hv hm1 hm2
  by_cases hs : decide (x < 0) = decide (y < 0)
  · have e1 : (decide (x < 0) && decide (0 < mag x + mag y)) = decide (x + y < 0) := by
      unfold mag; by_cases h : x < 0 <;> by_cases k : y < 0 <;> simp [h, k] at hs ⊢ <;> omega
    have e2 : mag (x + y) = mag x + mag y := by
      unfold mag; by_cases h : x < 0 <;> by_cases k : y < 0 <;> simp [h, k] at hs ⊢ <;> (try split) <;> omega
    have E1 := Lib.hid e1
    have E2 := Lib.hid e2
    have sb : (decide (x < 0) == decide (y < 0)) = true := by rw [beq_iff_eq]; exact hs
    clear e1 e2 hs
    go_enter Tryz.func68, Tryz.ntmps68
    go_wp2_with fail
    go_region_held3 (fun w' => w'.cell? ⟨w.heap.size, 0, none⟩ = some (.bool (decide (x < 0))) ∧ w'.cell? ⟨w.heap.size, 1, none⟩ = some (.slice a1 k1 c1) ∧ w'.cell? ⟨w.heap.size + 1, 0, none⟩ = some (.bool (decide (y < 0))) ∧ w'.cell? ⟨w.heap.size + 1, 1, none⟩ = some (.slice a2 k2 c2) ∧ w.heap.size + 2 < w'.heap.size ∧ Ext w w')
      (refine ⟨?_, ?_, ?_, ?_, ?_, ?_⟩ <;> first | (simp [go_sem, *]; done) | omega | (simp at z1; omega) | (simp at z2; omega) | (simp at z3; omega) | (simp at z4; omega) | exact Ext.q)
      (first
        | ((go_at_call 150; refine (NPlus_new (H1.out.ext Ext.q) (H2.out.ext Ext.q) hL).mono ?_; rintro e v1 ⟨q1, rfl, x1, h1⟩; obtain ⟨c1, f1⟩ := x1.rules; have z1 := x1.size; have lq := fun o => c1 (w.heap.size) o (by first | (simp; done) | (simp; omega) | omega); have mq := fun o => f1 (w.heap.size) o (by first | (simp; done) | (simp; omega) | omega); have k1_0_0 := lq 0; have q1_0_0 := mq 0; have k1_0_1 := lq 1; have q1_0_1 := mq 1; clear lq mq; have lq := fun o => c1 (w.heap.size + 1) o (by first | (simp; done) | (simp; omega) | omega); have mq := fun o => f1 (w.heap.size + 1) o (by first | (simp; done) | (simp; omega) | omega); have k1_1_0 := lq 0; have q1_1_0 := mq 0; have k1_1_1 := lq 1; have q1_1_1 := mq 1; clear lq mq; have lq := fun o => c1 (w.heap.size + 2) o (by first | (simp; done) | (simp; omega) | omega); have mq := fun o => f1 (w.heap.size + 2) o (by first | (simp; done) | (simp; omega) | omega); have k1_2_0 := lq 0; have q1_2_0 := mq 0; have k1_2_1 := lq 1; have q1_2_1 := mq 1; clear lq mq; have z1_0 : w.heap.size < v1.heap.size := (by (try simp at z1); omega); have z1_1 : w.heap.size + 1 < v1.heap.size := (by (try simp at z1); omega); have z1_2 : w.heap.size + 2 < v1.heap.size := (by (try simp at z1); omega); (try simp at z1); clear c1 f1; simp [go_sem, *] at k1_0_0 q1_0_0 k1_0_1 q1_0_1 k1_1_0 q1_1_0 k1_1_1 q1_1_1 k1_2_0 q1_2_0 k1_2_1 q1_2_1); obtain ⟨h1, n1⟩ := h1; have HH := Lib.hid h1; obtain ⟨a, k, cap, rfl, -⟩ := h1.form; have HN := Lib.hid n1; clear n1 h1)
        | (go_at_call 147; refine (Made_raw _ HH.out _).mono ?_; rintro e v2 ⟨rfl, x2⟩; obtain ⟨c2, f2⟩ := x2.rules; have z2 := x2.size; have lq := fun o => c2 (w.heap.size) o (by first | (simp; done) | (simp; omega) | omega); have mq := fun o => f2 (w.heap.size) o (by first | (simp; done) | (simp; omega) | omega); have k2_0_0 := lq 0; have q2_0_0 := mq 0; have k2_0_1 := lq 1; have q2_0_1 := mq 1; clear lq mq; have lq := fun o => c2 (w.heap.size + 1) o (by first | (simp; done) | (simp; omega) | omega); have mq := fun o => f2 (w.heap.size + 1) o (by first | (simp; done) | (simp; omega) | omega); have k2_1_0 := lq 0; have q2_1_0 := mq 0; have k2_1_1 := lq 1; have q2_1_1 := mq 1; clear lq mq; have lq := fun o => c2 (w.heap.size + 2) o (by first | (simp; done) | (simp; omega) | omega); have mq := fun o => f2 (w.heap.size + 2) o (by first | (simp; done) | (simp; omega) | omega); have k2_2_0 := lq 0; have q2_2_0 := mq 0; have k2_2_1 := lq 1; have q2_2_1 := mq 1; clear lq mq; have z2_0 : w.heap.size < v2.heap.size := (by (try simp at z2); omega); have z2_1 : w.heap.size + 1 < v2.heap.size := (by (try simp at z2); omega); have z2_2 : w.heap.size + 2 < v2.heap.size := (by (try simp at z2); omega); (try simp at z2); clear c2 f2; simp [go_sem, *] at k2_0_0 q2_0_0 k2_0_1 q2_0_1 k2_1_0 q2_1_0 k2_1_1 q2_1_1 k2_2_0 q2_2_0 k2_2_1 q2_2_1))
    all_goals
      have O1 : Hid (Off (w.heap.size + 1 + 1) (.slice a k cap)) := Lib.hid (HN.out.off (by simp))
      have NW : Hid (New w (.slice a k cap)) := Lib.hid (fun b hb => by have := HN.out b hb; simp at this; omega)
      go_wp2
      simp [bodyPost, results, Tryz.results68, go_sem, *]
      exact ⟨⟨⟨_, by rw [← E1.out], by rw [E2.out]; exact ((HH.out.ext Ext.q).off O1.out).off O1.out⟩⟩, NewInt.mk NW.out⟩
  · have sb : (decide (x < 0) == decide (y < 0)) = false := by rw [beq_eq_false_iff_ne]; exact hs
    rcases Int.lt_or_le (mag x) (mag y) with hl | hl
    · have e1 : (decide (y < 0) && decide (mag x < mag y)) = decide (x + y < 0) := by
        unfold mag at *; by_cases h : x < 0 <;> by_cases k : y < 0 <;> simp [h, k] at hs hl ⊢ <;> omega
      have e2 : mag (x + y) = mag y - mag x := by
        unfold mag at *; by_cases h : x < 0 <;> by_cases k : y < 0 <;> simp [h, k] at hs hl ⊢ <;> (try split) <;> omega
      have nc := fun u => (NCmp_any (w := u) (x := mag x) (y := mag y) (L := L) (m1 := .slice a1 k1 c1) (m2 := .slice a2 k2 c2))
      rw [cmpI_lt hl] at nc
      have NC := Lib.hid nc
      have E1 := Lib.hid e1
      have E2 := Lib.hid e2
      have HLe := Lib.hid (Int.le_of_lt hl)
      have HA := Lib.hid H2.out
      have HB := Lib.hid H1.out
      clear e1 e2 hs hl nc
      go_enter Tryz.func68, Tryz.ntmps68
      go_wp2_with fail; refine (NC.out _ (H1.out.ext Ext.q) (H2.out.ext Ext.q) (by omega)).mono ?_; rintro e v1 ⟨rfl, x1⟩; obtain ⟨c1, f1⟩ := x1.rules; have z1 := x1.size; have lq := fun o => c1 (w.heap.size) o (by first | (simp; done) | (simp; omega) | omega); have mq := fun o => f1 (w.heap.size) o (by first | (simp; done) | (simp; omega) | omega); have k1_0_0 := lq 0; have q1_0_0 := mq 0; have k1_0_1 := lq 1; have q1_0_1 := mq 1; clear lq mq; have lq := fun o => c1 (w.heap.size + 1) o (by first | (simp; done) | (simp; omega) | omega); have mq := fun o => f1 (w.heap.size + 1) o (by first | (simp; done) | (simp; omega) | omega); have k1_1_0 := lq 0; have q1_1_0 := mq 0; have k1_1_1 := lq 1; have q1_1_1 := mq 1; clear lq mq; have lq := fun o => c1 (w.heap.size + 2) o (by first | (simp; done) | (simp; omega) | omega); have mq := fun o => f1 (w.heap.size + 2) o (by first | (simp; done) | (simp; omega) | omega); have k1_2_0 := lq 0; have q1_2_0 := mq 0; have k1_2_1 := lq 1; have q1_2_1 := mq 1; clear lq mq; have z1_0 : w.heap.size < v1.heap.size := (by (try simp at z1); omega); have z1_1 : w.heap.size + 1 < v1.heap.size := (by (try simp at z1); omega); have z1_2 : w.heap.size + 2 < v1.heap.size := (by (try simp at z1); omega); (try simp at z1); clear c1 f1; simp [go_sem, *] at k1_0_0 q1_0_0 k1_0_1 q1_0_1 k1_1_0 q1_1_0 k1_1_1 q1_1_1 k1_2_0 q1_2_0 k1_2_1 q1_2_1
      go_wp2_with fail
      go_region_held3 (fun w' => w'.cell? ⟨w.heap.size, 0, none⟩ = some (.bool (decide (x < 0))) ∧ w'.cell? ⟨w.heap.size, 1, none⟩ = some (.slice a1 k1 c1) ∧ w'.cell? ⟨w.heap.size + 1, 0, none⟩ = some (.bool (decide (y < 0))) ∧ w'.cell? ⟨w.heap.size + 1, 1, none⟩ = some (.slice a2 k2 c2) ∧ w.heap.size + 2 < w'.heap.size ∧ Ext w w')
        (refine ⟨?_, ?_, ?_, ?_, ?_, ?_⟩ <;> first | (simp [go_sem, *]; done) | omega | (simp at z1; omega) | (simp at z2; omega) | (simp at z3; omega) | (simp at z4; omega) | exact Ext.q)
        (first
          | ((go_at_call 152; refine (NLess_new (HA.out.ext Ext.q) (HB.out.ext Ext.q) HLe.out hL).mono ?_; rintro e v2 ⟨q2, rfl, x2, h2⟩; obtain ⟨c2, f2⟩ := x2.rules; have z2 := x2.size; have lq := fun o => c2 (w.heap.size) o (by first | (simp; done) | (simp; omega) | omega); have mq := fun o => f2 (w.heap.size) o (by first | (simp; done) | (simp; omega) | omega); have k2_0_0 := lq 0; have q2_0_0 := mq 0; have k2_0_1 := lq 1; have q2_0_1 := mq 1; clear lq mq; have lq := fun o => c2 (w.heap.size + 1) o (by first | (simp; done) | (simp; omega) | omega); have mq := fun o => f2 (w.heap.size + 1) o (by first | (simp; done) | (simp; omega) | omega); have k2_1_0 := lq 0; have q2_1_0 := mq 0; have k2_1_1 := lq 1; have q2_1_1 := mq 1; clear lq mq; have lq := fun o => c2 (w.heap.size + 2) o (by first | (simp; done) | (simp; omega) | omega); have mq := fun o => f2 (w.heap.size + 2) o (by first | (simp; done) | (simp; omega) | omega); have k2_2_0 := lq 0; have q2_2_0 := mq 0; have k2_2_1 := lq 1; have q2_2_1 := mq 1; clear lq mq; have z2_0 : w.heap.size < v2.heap.size := (by (try simp at z2); omega); have z2_1 : w.heap.size + 1 < v2.heap.size := (by (try simp at z2); omega); have z2_2 : w.heap.size + 2 < v2.heap.size := (by (try simp at z2); omega); (try simp at z2); clear c2 f2; simp [go_sem, *] at k2_0_0 q2_0_0 k2_0_1 q2_0_1 k2_1_0 q2_1_0 k2_1_1 q2_1_1 k2_2_0 q2_2_0 k2_2_1 q2_2_1); obtain ⟨h2, n2⟩ := h2; have HH := Lib.hid h2; obtain ⟨a, k, cap, rfl, -⟩ := h2.form; have HN := Lib.hid n2; clear n2 h2)
          | (go_at_call 147; refine (Made_raw _ HH.out _).mono ?_; rintro e v3 ⟨rfl, x3⟩; obtain ⟨c3, f3⟩ := x3.rules; have z3 := x3.size; have lq := fun o => c3 (w.heap.size) o (by first | (simp; done) | (simp; omega) | omega); have mq := fun o => f3 (w.heap.size) o (by first | (simp; done) | (simp; omega) | omega); have k3_0_0 := lq 0; have q3_0_0 := mq 0; have k3_0_1 := lq 1; have q3_0_1 := mq 1; clear lq mq; have lq := fun o => c3 (w.heap.size + 1) o (by first | (simp; done) | (simp; omega) | omega); have mq := fun o => f3 (w.heap.size + 1) o (by first | (simp; done) | (simp; omega) | omega); have k3_1_0 := lq 0; have q3_1_0 := mq 0; have k3_1_1 := lq 1; have q3_1_1 := mq 1; clear lq mq; have lq := fun o => c3 (w.heap.size + 2) o (by first | (simp; done) | (simp; omega) | omega); have mq := fun o => f3 (w.heap.size + 2) o (by first | (simp; done) | (simp; omega) | omega); have k3_2_0 := lq 0; have q3_2_0 := mq 0; have k3_2_1 := lq 1; have q3_2_1 := mq 1; clear lq mq; have z3_0 : w.heap.size < v3.heap.size := (by (try simp at z3); omega); have z3_1 : w.heap.size + 1 < v3.heap.size := (by (try simp at z3); omega); have z3_2 : w.heap.size + 2 < v3.heap.size := (by (try simp at z3); omega); (try simp at z3); clear c3 f3; simp [go_sem, *] at k3_0_0 q3_0_0 k3_0_1 q3_0_1 k3_1_0 q3_1_0 k3_1_1 q3_1_1 k3_2_0 q3_2_0 k3_2_1 q3_2_1))
      all_goals
        have O1 : Hid (Off (w.heap.size + 1 + 1) (.slice a k cap)) := Lib.hid (HN.out.off (by first | (simp; done) | (simp; omega) | omega))
        have NW : Hid (New w (.slice a k cap)) := Lib.hid (fun b hb => by have := HN.out b hb; have := x1.size; simp at *; omega)
        go_wp2
        simp [bodyPost, results, Tryz.results68, go_sem, *]
        exact ⟨⟨⟨_, by rw [← E1.out], by rw [E2.out]; exact (((HH.out.ext Ext.q).off O1.out).off O1.out).mono (by omega)⟩⟩, NewInt.mk NW.out⟩
    · have e1 : (decide (x < 0) && decide (mag y < mag x)) = decide (x + y < 0) := by
        unfold mag at *; by_cases h : x < 0 <;> by_cases k : y < 0 <;> simp [h, k] at hs hl ⊢ <;> omega
      have e2 : mag (x + y) = mag x - mag y := by
        unfold mag at *; by_cases h : x < 0 <;> by_cases k : y < 0 <;> simp [h, k] at hs hl ⊢ <;> (try split) <;> omega
      have hc : 0 ≤ cmpI (mag x) (mag y) := by
        rcases Int.lt_or_eq_of_le hl with h | h
        · rw [cmpI_gt h]; omega
        · rw [← h, cmpI_eq]; omega
      have nc := fun u => (NCmp_any (w := u) (x := mag x) (y := mag y) (L := L) (m1 := .slice a1 k1 c1) (m2 := .slice a2 k2 c2))
      generalize cmpI (mag x) (mag y) = c at hc nc
      have NC := Lib.hid nc
      have E1 := Lib.hid e1
      have E2 := Lib.hid e2
      have HLe := Lib.hid hl
      have HA := Lib.hid H1.out
      have HB := Lib.hid H2.out
      clear e1 e2 hs hl nc
      go_enter Tryz.func68, Tryz.ntmps68
      go_wp2_with fail; refine (NC.out _ (H1.out.ext Ext.q) (H2.out.ext Ext.q) (by omega)).mono ?_; rintro e v1 ⟨rfl, x1⟩; obtain ⟨c1, f1⟩ := x1.rules; have z1 := x1.size; have lq := fun o => c1 (w.heap.size) o (by first | (simp; done) | (simp; omega) | omega); have mq := fun o => f1 (w.heap.size) o (by first | (simp; done) | (simp; omega) | omega); have k1_0_0 := lq 0; have q1_0_0 := mq 0; have k1_0_1 := lq 1; have q1_0_1 := mq 1; clear lq mq; have lq := fun o => c1 (w.heap.size + 1) o (by first | (simp; done) | (simp; omega) | omega); have mq := fun o => f1 (w.heap.size + 1) o (by first | (simp; done) | (simp; omega) | omega); have k1_1_0 := lq 0; have q1_1_0 := mq 0; have k1_1_1 := lq 1; have q1_1_1 := mq 1; clear lq mq; have lq := fun o => c1 (w.heap.size + 2) o (by first | (simp; done) | (simp; omega) | omega); have mq := fun o => f1 (w.heap.size + 2) o (by first | (simp; done) | (simp; omega) | omega); have k1_2_0 := lq 0; have q1_2_0 := mq 0; have k1_2_1 := lq 1; have q1_2_1 := mq 1; clear lq mq; have z1_0 : w.heap.size < v1.heap.size := (by (try simp at z1); omega); have z1_1 : w.heap.size + 1 < v1.heap.size := (by (try simp at z1); omega); have z1_2 : w.heap.size + 2 < v1.heap.size := (by (try simp at z1); omega); (try simp at z1); clear c1 f1; simp [go_sem, *] at k1_0_0 q1_0_0 k1_0_1 q1_0_1 k1_1_0 q1_1_0 k1_1_1 q1_1_1 k1_2_0 q1_2_0 k1_2_1 q1_2_1
      go_wp2_with fail
      go_region_held3 (fun w' => w'.cell? ⟨w.heap.size, 0, none⟩ = some (.bool (decide (x < 0))) ∧ w'.cell? ⟨w.heap.size, 1, none⟩ = some (.slice a1 k1 c1) ∧ w'.cell? ⟨w.heap.size + 1, 0, none⟩ = some (.bool (decide (y < 0))) ∧ w'.cell? ⟨w.heap.size + 1, 1, none⟩ = some (.slice a2 k2 c2) ∧ w.heap.size + 2 < w'.heap.size ∧ Ext w w')
        (refine ⟨?_, ?_, ?_, ?_, ?_, ?_⟩ <;> first | (simp [go_sem, *]; done) | omega | (simp at z1; omega) | (simp at z2; omega) | (simp at z3; omega) | (simp at z4; omega) | exact Ext.q)
        (first
          | ((go_at_call 152; refine (NLess_new (HA.out.ext Ext.q) (HB.out.ext Ext.q) HLe.out hL).mono ?_; rintro e v2 ⟨q2, rfl, x2, h2⟩; obtain ⟨c2, f2⟩ := x2.rules; have z2 := x2.size; have lq := fun o => c2 (w.heap.size) o (by first | (simp; done) | (simp; omega) | omega); have mq := fun o => f2 (w.heap.size) o (by first | (simp; done) | (simp; omega) | omega); have k2_0_0 := lq 0; have q2_0_0 := mq 0; have k2_0_1 := lq 1; have q2_0_1 := mq 1; clear lq mq; have lq := fun o => c2 (w.heap.size + 1) o (by first | (simp; done) | (simp; omega) | omega); have mq := fun o => f2 (w.heap.size + 1) o (by first | (simp; done) | (simp; omega) | omega); have k2_1_0 := lq 0; have q2_1_0 := mq 0; have k2_1_1 := lq 1; have q2_1_1 := mq 1; clear lq mq; have lq := fun o => c2 (w.heap.size + 2) o (by first | (simp; done) | (simp; omega) | omega); have mq := fun o => f2 (w.heap.size + 2) o (by first | (simp; done) | (simp; omega) | omega); have k2_2_0 := lq 0; have q2_2_0 := mq 0; have k2_2_1 := lq 1; have q2_2_1 := mq 1; clear lq mq; have z2_0 : w.heap.size < v2.heap.size := (by (try simp at z2); omega); have z2_1 : w.heap.size + 1 < v2.heap.size := (by (try simp at z2); omega); have z2_2 : w.heap.size + 2 < v2.heap.size := (by (try simp at z2); omega); (try simp at z2); clear c2 f2; simp [go_sem, *] at k2_0_0 q2_0_0 k2_0_1 q2_0_1 k2_1_0 q2_1_0 k2_1_1 q2_1_1 k2_2_0 q2_2_0 k2_2_1 q2_2_1); obtain ⟨h2, n2⟩ := h2; have HH := Lib.hid h2; obtain ⟨a, k, cap, rfl, -⟩ := h2.form; have HN := Lib.hid n2; clear n2 h2)
          | (go_at_call 147; refine (Made_raw _ HH.out _).mono ?_; rintro e v3 ⟨rfl, x3⟩; obtain ⟨c3, f3⟩ := x3.rules; have z3 := x3.size; have lq := fun o => c3 (w.heap.size) o (by first | (simp; done) | (simp; omega) | omega); have mq := fun o => f3 (w.heap.size) o (by first | (simp; done) | (simp; omega) | omega); have k3_0_0 := lq 0; have q3_0_0 := mq 0; have k3_0_1 := lq 1; have q3_0_1 := mq 1; clear lq mq; have lq := fun o => c3 (w.heap.size + 1) o (by first | (simp; done) | (simp; omega) | omega); have mq := fun o => f3 (w.heap.size + 1) o (by first | (simp; done) | (simp; omega) | omega); have k3_1_0 := lq 0; have q3_1_0 := mq 0; have k3_1_1 := lq 1; have q3_1_1 := mq 1; clear lq mq; have lq := fun o => c3 (w.heap.size + 2) o (by first | (simp; done) | (simp; omega) | omega); have mq := fun o => f3 (w.heap.size + 2) o (by first | (simp; done) | (simp; omega) | omega); have k3_2_0 := lq 0; have q3_2_0 := mq 0; have k3_2_1 := lq 1; have q3_2_1 := mq 1; clear lq mq; have z3_0 : w.heap.size < v3.heap.size := (by (try simp at z3); omega); have z3_1 : w.heap.size + 1 < v3.heap.size := (by (try simp at z3); omega); have z3_2 : w.heap.size + 2 < v3.heap.size := (by (try simp at z3); omega); (try simp at z3); clear c3 f3; simp [go_sem, *] at k3_0_0 q3_0_0 k3_0_1 q3_0_1 k3_1_0 q3_1_0 k3_1_1 q3_1_1 k3_2_0 q3_2_0 k3_2_1 q3_2_1))
      all_goals
        have O1 : Hid (Off (w.heap.size + 1 + 1) (.slice a k cap)) := Lib.hid (HN.out.off (by first | (simp; done) | (simp; omega) | omega))
        have NW : Hid (New w (.slice a k cap)) := Lib.hid (fun b hb => by have := HN.out b hb; have := x1.size; simp at *; omega)
        go_wp2
        simp [bodyPost, results, Tryz.results68, go_sem, *]
        exact ⟨⟨⟨_, by rw [← E1.out], by rw [E2.out]; exact (((HH.out.ext Ext.q).off O1.out).off O1.out).mono (by omega)⟩⟩, NewInt.mk NW.out⟩
end Go.Proofs.YtkegefnpmijfiaaGreat
namespace Go.Proofs.YtkegefnpmijfiaaGreat
open Go.RowKit
theorem IntAt.form {w : World} {v : Value} {x : Int} {L : Nat} (h : IntAt w v x L) : ∃ a k c, v = .agg #[.bool (decide (x < 0)), .slice a k c] ∧ NatAt w (.slice a k c) (mag x) L := by
  obtain ⟨m, rfl, hm⟩ := h.is
  obtain ⟨a, k, c, rfl, -⟩ := hm.form
  exact ⟨a, k, c, rfl, hm⟩
theorem IntAt.of {w : World} {s : Bool} {m : Value} {x : Int} {L : Nat} (hs : s = decide (x < 0)) (h : NatAt w m (mag x) L) : IntAt w (.agg #[.bool s, m]) x L := ⟨⟨m, by rw [hs], h⟩⟩
set_option maxHeartbeats 2000000 in
theorem Less_ref {u v : Value} {x y : Int} {L : Nat} {w : World} (hu : IntAt w u x L) (hv : IntAt w v y L) (hL : L ≤ 400000) :
    Calls Tryz.prog 73 #[u, v] w fun e w' => ∃ q, e = .returned q ∧ Ext w w' ∧ IntAt w' q (x - y) (L + 1) ∧ NewInt w q := by
  have HU := Lib.hid hu
  have HV := Lib.hid hv
  obtain ⟨a1, k1, c1, rfl, -⟩ := hu.form
  obtain ⟨a2, k2, c2, rfl, -⟩ := hv.form
  clear hu hv
  go_enter Tryz.func73, Tryz.ntmps73
  go_wp2_with fail
  go_region_held3 (fun w' => w'.cell? ⟨w.heap.size, 0, none⟩ = some (.bool (decide (x < 0))) ∧ w'.cell? ⟨w.heap.size, 1, none⟩ = some (.slice a1 k1 c1) ∧ w'.cell? ⟨w.heap.size + 1, 0, none⟩ = some (.bool (decide (y < 0))) ∧ w'.cell? ⟨w.heap.size + 1, 1, none⟩ = some (.slice a2 k2 c2) ∧ w.heap.size + 2 < w'.heap.size ∧ Ext w w')
    (refine ⟨?_, ?_, ?_, ?_, ?_, ?_⟩ <;> first | (simp [go_sem, *]; done) | omega | (simp at z1; omega) | (simp at z2; omega) | (simp at z3; omega) | (simp at z4; omega) | exact Ext.q)
    (first
      | ((go_at_call 113; refine (Neg_ref (HV.out.ext Ext.q)).mono ?_; rintro e v1 ⟨q1, rfl, x1, h1⟩; obtain ⟨c1, f1⟩ := x1.rules; have z1 := x1.size; have lq := fun o => c1 (w.heap.size) o (by first | (simp; done) | (simp; omega) | omega); have mq := fun o => f1 (w.heap.size) o (by first | (simp; done) | (simp; omega) | omega); have k1_0_0 := lq 0; have q1_0_0 := mq 0; have k1_0_1 := lq 1; have q1_0_1 := mq 1; clear lq mq; have lq := fun o => c1 (w.heap.size + 1) o (by first | (simp; done) | (simp; omega) | omega); have mq := fun o => f1 (w.heap.size + 1) o (by first | (simp; done) | (simp; omega) | omega); have k1_1_0 := lq 0; have q1_1_0 := mq 0; have k1_1_1 := lq 1; have q1_1_1 := mq 1; clear lq mq; have lq := fun o => c1 (w.heap.size + 2) o (by first | (simp; done) | (simp; omega) | omega); have mq := fun o => f1 (w.heap.size + 2) o (by first | (simp; done) | (simp; omega) | omega); have k1_2_0 := lq 0; have q1_2_0 := mq 0; have k1_2_1 := lq 1; have q1_2_1 := mq 1; clear lq mq; have z1_0 : w.heap.size < v1.heap.size := (by (try simp at z1); omega); have z1_1 : w.heap.size + 1 < v1.heap.size := (by (try simp at z1); omega); have z1_2 : w.heap.size + 2 < v1.heap.size := (by (try simp at z1); omega); (try simp at z1); clear c1 f1; simp [go_sem, *] at k1_0_0 q1_0_0 k1_0_1 q1_0_1 k1_1_0 q1_1_0 k1_1_1 q1_1_1 k1_2_0 q1_2_0 k1_2_1 q1_2_1); have HY := Lib.hid h1; clear h1)
      | ((go_at_call 68; refine (Plus_ref (HU.out.ext Ext.q) (HY.out.ext Ext.q) hL).mono ?_; rintro e v2 ⟨q2, rfl, x2, h2⟩; obtain ⟨c2, f2⟩ := x2.rules; have z2 := x2.size; have lq := fun o => c2 (w.heap.size) o (by first | (simp; done) | (simp; omega) | omega); have mq := fun o => f2 (w.heap.size) o (by first | (simp; done) | (simp; omega) | omega); have k2_0_0 := lq 0; have q2_0_0 := mq 0; have k2_0_1 := lq 1; have q2_0_1 := mq 1; clear lq mq; have lq := fun o => c2 (w.heap.size + 1) o (by first | (simp; done) | (simp; omega) | omega); have mq := fun o => f2 (w.heap.size + 1) o (by first | (simp; done) | (simp; omega) | omega); have k2_1_0 := lq 0; have q2_1_0 := mq 0; have k2_1_1 := lq 1; have q2_1_1 := mq 1; clear lq mq; have lq := fun o => c2 (w.heap.size + 2) o (by first | (simp; done) | (simp; omega) | omega); have mq := fun o => f2 (w.heap.size + 2) o (by first | (simp; done) | (simp; omega) | omega); have k2_2_0 := lq 0; have q2_2_0 := mq 0; have k2_2_1 := lq 1; have q2_2_1 := mq 1; clear lq mq; have z2_0 : w.heap.size < v2.heap.size := (by (try simp at z2); omega); have z2_1 : w.heap.size + 1 < v2.heap.size := (by (try simp at z2); omega); have z2_2 : w.heap.size + 2 < v2.heap.size := (by (try simp at z2); omega); (try simp at z2); clear c2 f2; simp [go_sem, *] at k2_0_0 q2_0_0 k2_0_1 q2_0_1 k2_1_0 q2_1_0 k2_1_1 q2_1_1 k2_2_0 q2_2_0 k2_2_1 q2_2_1); obtain ⟨h2, n2⟩ := h2; obtain ⟨a, k, cap, rfl, hf2⟩ := h2.form; have HH := Lib.hid hf2; have HN := Lib.hid (n2 _ _ rfl); clear n2 h2 hf2))
  all_goals
    have O1 : Hid (Off (w.heap.size + 1 + 1) (.slice a k cap)) := Lib.hid (HN.out.off (by first | (simp; done) | (simp; omega) | omega))
    have NW : Hid (New w (.slice a k cap)) := Lib.hid (fun b hb => by have := HN.out b hb; have := x1.size; simp at *; omega)
    have E0 : Hid (x + -y = x - y) := Lib.hid (by omega)
    go_wp2
    simp [bodyPost, results, Tryz.results73, go_sem, *]
    exact ⟨IntAt.of (by rw [← E0.out]) (by rw [← E0.out]; exact (((HH.out.ext Ext.q).off O1.out).off O1.out)), NewInt.mk NW.out⟩
theorem cmp_sgn (x y : Int) : sgn (x - y) = cmpI x y := by
  unfold sgn cmpI
  rcases Int.lt_trichotomy x y with h | h | h
  · rw [if_pos (by omega), if_pos h]
  · rw [if_neg (by omega), if_neg (by omega), if_neg (by omega), if_neg (by omega)]
  · rw [if_neg (by omega), if_pos (by omega), if_neg (by omega), if_pos h]
theorem Cmp_ref {u v : Value} {x y : Int} {L : Nat} {w : World} (hu : IntAt w u x L) (hv : IntAt w v y L) (hL : L ≤ 400000) :
    Calls Tryz.prog 71 #[u, v] w fun e w' => e = .returned (.int .i64 (cmpI x y)) ∧ Ext w w' := by
  have HU := Lib.hid hu
  have HV := Lib.hid hv
  obtain ⟨a1, k1, c1, rfl, -⟩ := hu.form
  obtain ⟨a2, k2, c2, rfl, -⟩ := hv.form
  clear hu hv
  go_enter Tryz.func71, Tryz.ntmps71
  go_wp2_with fail; refine (Less_ref (HU.out.ext Ext.q) (HV.out.ext Ext.q) hL).mono ?_; rintro e v1 ⟨q1, rfl, x1, h1⟩; obtain ⟨c1, f1⟩ := x1.rules; have z1 := x1.size
  have H1 := Lib.hid h1.1
  clear h1
  go_wp2_with fail; refine (Sign_ref H1.out).mono ?_; rintro e v2 ⟨rfl, x2⟩; obtain ⟨c2, f2⟩ := x2.rules; have z2 := x2.size
  go_wp2
  go_ret
  exact ⟨by rw [← cmp_sgn]; rfl, Ext.q⟩
end Go.Proofs.YtkegefnpmijfiaaGreat
